import Derived.Test.YtjmaicckkkdjpaaGreatF04
/- Arenas that are laid by hand: a level, walked. -/
set_option maxRecDepth 100000
set_option maxHeartbeats 2000000
set_option linter.unusedVariables false
set_option linter.unusedSimpArgs false
namespace Go.Proofs.YtjmaicckkkdjpaaGreat
open Go.RowKit
theorem taken_len {R:AR} {s j:Nat} (h:AROk R) (hs:s≤R.slabs):(R.taken s j).bs.length=R.bs.length:=putW_len _ (by have:=h.len;omega)
theorem taken_same {R:AR} {s j:Nat} (h:AROk R) (hs:s≤R.slabs) (hj:j≤15) (hw:wdN R.bs (1024*s+8)=2^j-1):wdN (R.taken s j).bs (1024*s+8)=2^ (j+1)-1:=by
 have hp:=pow_small hj
 have hp0:1≤2^j:=Nat.one_le_two_pow
 have hpe:((2:Int)^j)=((2^j:Nat):Int):=by simp
 have hpe2:((2:Int)^ (j+1))=2*((2^j:Nat):Int):=by rw[Int.pow_succ,hpe];omega
 have e:=wdN_same (bs:=R.bs) (a:=1024*s+8) (x:=(wdN R.bs (1024*s+8)).toNat+2^j) (by have:=h.len;omega) (by rw[hw,hpe];generalize 2^j=P at hp hp0 ⊢;omega)
 show wdN (putW R.bs (1024*s+8) _) (1024*s+8)=_
 rw[e,hw,hpe2,hpe]
 generalize 2^j=P at hp hp0 ⊢
 omega
theorem taken_other {R:AR} {s j t:Nat} (h:AROk R) (hs:s≤R.slabs) (hn:t≠s):wdN (R.taken s j).bs (1024*t+8)=wdN R.bs (1024*t+8):=wdN_other (by have:=h.len;omega) (by omega)
theorem AROk.newNode {R:AR} (h:AROk R):AROk R.newNode.1:=by
 have h0:=h.newNode0
 have hr:=newNode0_room R
 unfold AR.newNode
 generalize R.newNode0=Q at h0 hr ⊢
 by_cases hv:Q.node=0
 ·rw[if_pos hv];exact h0
 ·rw[if_neg hv]
  have hs:Q.node≤Q.slabs:=Nat.le_trans h0.nod h0.us
  have hj:=h0.ns
  have hj5:=hr hv
  refine⟨by show(Q.taken Q.node Q.nodes).bs.length=_;rw[taken_len h0 hs];exact h0.len,h0.s64,h0.us,h0.val,h0.nod,h0.vs,by show Q.nodes+1≤5;omega,putW_byte h0.byt _ _,fun s h1 h2=> ?_,fun hn=> ?_,fun hn=> ?_,h0.two⟩
  ·have h1':Q.used<s:=h1
   show wdN (Q.taken Q.node Q.nodes).bs _=0
   rw[taken_other h0 hs (by have:=h0.nod;omega)]
   exact h0.fresh s h1 h2
  ·show wdN (Q.taken Q.node Q.nodes).bs (1024*Q.value+8)=_
   rw[taken_other h0 hs (fun e=>h0.two hn hv e)]
   exact h0.hv hn
  ·exact taken_same h0 hs (by omega) (h0.hn hv)
theorem AROk.newValue {R:AR} (h:AROk R):AROk R.newValue.1:=by
 have h0:=h.newValue0
 have hr:=newValue0_room R
 unfold AR.newValue
 generalize R.newValue0=Q at h0 hr ⊢
 by_cases hv:Q.value=0
 ·rw[if_pos hv];exact h0
 ·rw[if_neg hv]
  have hs:Q.value≤Q.slabs:=Nat.le_trans h0.val h0.us
  have hj:=h0.vs
  have hj5:=hr hv
  refine⟨by show(Q.taken Q.value Q.values).bs.length=_;rw[taken_len h0 hs];exact h0.len,h0.s64,h0.us,h0.val,h0.nod,by show Q.values+1≤15;omega,h0.ns,putW_byte h0.byt _ _,fun s h1 h2=> ?_,fun hn=> ?_,fun hn=> ?_,h0.two⟩
  ·have h1':Q.used<s:=h1
   show wdN (Q.taken Q.value Q.values).bs _=0
   rw[taken_other h0 hs (by have:=h0.val;omega)]
   exact h0.fresh s h1 h2
  ·exact taken_same h0 hs (by omega) (h0.hv hv)
  ·show wdN (Q.taken Q.value Q.values).bs (1024*Q.node+8)=_
   rw[taken_other h0 hs (fun e=>h0.two hv hn e.symm)]
   exact h0.hn hn
theorem AROk.rounds {R:AR} (h:AROk R) (lvl per:Nat) (l:List (Int×Int)): ∀k,AROk (R.rounds lvl per l k).1
 | 0=>h
 | k+1=>(AROk.rounds h lvl per l k).newNode
theorem newNode_at {R:AR} (h:AROk R) (hn:R.newNode.2≠0): ∃s j,R.newNode.2=1024*s+64+192*j∧1≤s∧s≤R.newNode.1.slabs∧j≤4:=by
 have h0:=h.newNode0
 have hr:=newNode0_room R
 unfold AR.newNode at hn ⊢
 generalize R.newNode0=Q at h0 hr hn ⊢
 by_cases hv:Q.node=0
 ·rw[if_pos hv] at hn;exact absurd rfl hn
 ·rw[if_neg hv]
  exact⟨Q.node,Q.nodes,rfl,by omega,Nat.le_trans h0.nod h0.us,by have:=h0.ns;have:=hr hv;omega⟩
theorem newValue_at {R:AR} (h:AROk R) (hn:R.newValue.2≠0): ∃s j,R.newValue.2=1024*s+64+64*j∧1≤s∧s≤R.newValue.1.slabs∧j≤14:=by
 have h0:=h.newValue0
 have hr:=newValue0_room R
 unfold AR.newValue at hn ⊢
 generalize R.newValue0=Q at h0 hr hn ⊢
 by_cases hv:Q.value=0
 ·rw[if_pos hv] at hn;exact absurd rfl hn
 ·rw[if_neg hv]
  exact⟨Q.value,Q.values,by show 1024*Q.value+64*(Q.values+1)=_;omega,by omega,Nat.le_trans h0.val h0.us,by have:=h0.vs;have:=hr hv;omega⟩
theorem slab_len {R:AR} (h:AROk R) (c:Nat):(R.slab c).1.bs.length=R.bs.length:=(h.slab (c:=c)).1
theorem newNode_len {R:AR} (h:AROk R):R.newNode.1.bs.length=R.bs.length:=by
 have h0:=h.newNode0
 have e0:R.newNode0.bs.length=R.bs.length:=by
  unfold AR.newNode0
  split
  ·exact slab_len h 3
  ·rfl
 unfold AR.newNode
 generalize R.newNode0=Q at h0 e0 ⊢
 by_cases hv:Q.node=0
 ·rw[if_pos hv];exact e0
 ·rw[if_neg hv]
  show(Q.taken Q.node Q.nodes).bs.length=_
  rw[taken_len h0 (Nat.le_trans h0.nod h0.us),e0]
theorem newValue_len {R:AR} (h:AROk R):R.newValue.1.bs.length=R.bs.length:=by
 have h0:=h.newValue0
 have e0:R.newValue0.bs.length=R.bs.length:=by
  unfold AR.newValue0
  split
  ·exact slab_len h 1
  ·rfl
 unfold AR.newValue
 generalize R.newValue0=Q at h0 e0 ⊢
 by_cases hv:Q.value=0
 ·rw[if_pos hv];exact e0
 ·rw[if_neg hv]
  show(Q.taken Q.value Q.values).bs.length=_
  rw[taken_len h0 (Nat.le_trans h0.val h0.us),e0]
attribute [local go_sem ↓ high] nodeBuild2 atBuild atBuildS atLoadAt atStoreAt append_shut2 nodeLoadAt
attribute [local go_sem] ldM_run lvM_run stM_run bldM2_run bslM2_run appM2_run
theorem nRounds_gt {per k:Nat} {l:List (Int×Int)} (hp:0<per) (h1:k=0∨k*per<l.length):k<nRounds per l:=by
 unfold nRounds
 rcases h1 with rfl | h1
 ·omega
 ·have:k+1≤(l.length+per-1)/per:=by
   rw[Nat.le_div_iff_mul_le hp,Nat.succ_mul];omega
  omega
structure LvI (w:World) (g b n:Nat) (lv:Value) (l:List (Int×Int)) (ev:Value) (Nb:Nat) (rv:Value) (Q:AR) (row:List (Nat×NodeA)) (W:World):Prop where
 ar:ArIs W g b n Q lv
 row:rowA W w.heap.size rv row
 en:W.ownsRow Nb 130 2 ev l.length (l.flatMap entC)
 only:Only [g,b] w W
theorem LvI.bel {w:World} {g b n:Nat} {lv:Value} {l:List (Int×Int)} {ev:Value} {Nb:Nat} {rv:Value} {Q:AR} {row:List (Nat×NodeA)} {W W':World} (h:LvI w g b n lv l ev Nb rv Q row W) (hb:Below W.heap.size W W'):LvI w g b n lv l ev Nb rv Q row W':=
 ⟨h.ar.bel hb,(Only.of_below hb []).own h.row (by simp),(Only.of_below hb []).own h.en (by simp),h.only.trans (Only.of_below hb []) (by simp)⟩
theorem own_ne {W:World} {base g:Nat} {e t:TypeId} {size n:Nat} {v:Value} {xs:List Value} {cs:Array Value} (h:W.ownsRow base e size v n xs) (hg:Blk W g t cs) (hne:e≠t): ∀k,v.ownBlock=some k→k≠g:=by
 intro k hk he
 subst he
 rcases h.2 with⟨h1,_⟩ | ⟨g',cap',cur,h1,h2,h3,_⟩
 ·rw[h1] at hk;cases hk
 ·rw[h1] at hk
  have:g'=k:=by simpa[Value.ownBlock] using hk
  subst this
  exact(show Blk W g' e cur from h3).ne_ hg hne rfl
theorem LvI.arena {w:World} {g b n:Nat} {lv:Value} {l:List (Int×Int)} {ev:Value} {Nb:Nat} {rv:Value} {Q Q':AR} {row:List (Nat×NodeA)} {W W':World} (h:LvI w g b n lv l ev Nb rv Q row W) (hA:ArIs W' g b n Q' lv) (ho:Only [g,b] W W'):LvI w g b n lv l ev Nb rv Q' row W':=by
 refine⟨hA,ho.own h.row (fun k hk hm=> ?_),ho.own h.en (fun k hk hm=> ?_),h.only.trans ho (fun _ h=>Or.inl h)⟩
 ·simp at hm
  rcases hm with rfl | rfl
  ·exact own_ne h.row h.ar.blk (by decide) _ hk rfl
  ·exact own_ne h.row h.ar.by' (by decide) _ hk rfl
 ·simp at hm
  rcases hm with rfl | rfl
  ·exact own_ne h.en h.ar.blk (by decide) _ hk rfl
  ·exact own_ne h.en h.ar.by' (by decide) _ hk rfl
def ndTo (nd:NodeA) (own:List (Int×Int)) (j:Nat):NodeA:={ nd with k:=fun i=>if i<j then(own.getD i (0,0)).1 else 0,p:=fun i=>if i<j then(own.getD i (0,0)).2 else 0 }
theorem ndTo_next (nd:NodeA) {own:List (Int×Int)} {j:Nat} {x:Int×Int} (h:own[j]?=some x):({ ({ ndTo nd own j with k:=fun i=>if i=j then x.1 else(ndTo nd own j).k i }:NodeA) with p:=fun i=>if i=j then x.2 else(ndTo nd own j).p i }:NodeA)=ndTo nd own (j+1):=by
 have hx:own.getD j (0,0)=x:=by rw[List.getD_eq_getElem?_getD,h];rfl
 unfold ndTo
 simp only[NodeA.mk.injEq,true_and]
 constructor
 ·funext i
  by_cases e:i=j
  ·subst e;simp[h]
  ·by_cases q:i<j
   ·simp[e,q,show i<j+1 by omega]
   ·simp[e,q,show ¬i<j+1 by omega]
 ·funext i
  by_cases e:i=j
  ·subst e;simp[h]
  ·by_cases q:i<j
   ·simp[e,q,show i<j+1 by omega]
   ·simp[e,q,show ¬i<j+1 by omega]
theorem ndTo_all (nd:NodeA) (own:List (Int×Int)):ndTo nd own own.length={ nd with k:=fun i=>(own.getD i (0,0)).1,p:=fun i=>(own.getD i (0,0)).2 }:=by
 unfold ndTo
 simp only[NodeA.mk.injEq,true_and]
 constructor
 ·funext i
  by_cases q:i<own.length
  ·simp[q]
  ·simp[q,List.getD_eq_getElem?_getD,List.getElem?_eq_none (Nat.le_of_not_lt q)]
 ·funext i
  by_cases q:i<own.length
  ·simp[q]
  ·simp[q,List.getD_eq_getElem?_getD,List.getElem?_eq_none (Nat.le_of_not_lt q)]
theorem ents_cell {W:World} {oo:Option Addr} {mo oc:Nat} {own:List (Int×Int)} (h:EntsAt W (.slice oo mo oc) own) (h0:0<own.length): ∃eb off,oo=some ⟨eb,off,none⟩∧eb<W.heap.size∧ ∀i,i<own.length→W.cell? ⟨eb,off+i*2,none⟩=some (.int .u64 (own.getD i (0,0)).1)∧W.cell? ⟨eb,off+i*2+1,none⟩=some (.int .u64 (own.getD i (0,0)).2):=by
 obtain⟨ao,cap,h1,h2⟩:=h
 injection h1 with h1 _ _
 subst h1
 rcases h2 with rfl | ⟨eb,off,rfl,hlt,hc⟩
 ·exact absurd h0 (Nat.lt_irrefl _)
 ·refine⟨eb,off,rfl,hlt,fun i hi=> ?_⟩
  have:=hc i own[i] (List.getElem?_eq_getElem hi)
  rw[List.getD_eq_getElem?_getD,List.getElem?_eq_getElem hi]
  exact this
theorem ents_len {W:World} {oo:Option Addr} {mo oc:Nat} {own:List (Int×Int)} (h:EntsAt W (.slice oo mo oc) own):mo=own.length:=by
 obtain⟨ao,cap,h1,h2⟩:=h
 injection h1
def nd0 (lvl:Nat) (low fi:Int):NodeA:=⟨lvl,low,0,0,fi,fun _=>0,fun _=>0⟩
theorem nd_final {lvl k:Nat} {at':Nat} {own own2:List (Int×Int)} {L1 L2 P1 F1:Int} (h1:L1=(own.getD 0 (0,0)).1) (h2:P1=(own.getD 0 (0,0)).2) (h3:L2=(if(k==0)=true then 0 else L1)) (h4:own2=own.drop (if lvl=0 then 0 else 1)) (h5:F1=(if lvl=0 then(at':Int) else P1)):ndTo (nd0 lvl L2 F1) own2 own2.length=ndOf lvl at' (k==0) own:=by
 rw[ndTo_all,h3,h5,h1,h2,h4]
 rfl
theorem ArIs.only {W W':World} {g b n:Nat} {R:AR} {lv:Value} {f:List Nat} (h:ArIs W g b n R lv) (ho:Only f W W') (hg:g∉f) (hb:b∉f):ArIs W' g b n R lv:=⟨ho.blk h.blk hg,ho.blk h.by' hb,h.ln,h.big,h.byt⟩
theorem own_apart {W:World} {base base':Nat} {e t:TypeId} {size size' n n':Nat} {v v':Value} {xs xs':List Value} (h:W.ownsRow base e size v n xs) (h':W.ownsRow base' t size' v' n' xs') (hne:e≠t): ∀k,v.ownBlock=some k→k∉v'.ownBlock.toList:=by
 intro k hk hm
 have hm':v'.ownBlock=some k:=by simpa[Option.mem_toList] using hm
 rcases h'.2 with⟨h1,_⟩ | ⟨g',cap',cur,h1,h2,h3,_⟩
 ·rw[h1] at hm';cases hm'
 ·rw[h1] at hm'
  have:g'=k:=by simpa[Value.ownBlock] using hm'
  subst this
  exact own_ne h (show Blk W g' t cur from h3) hne _ hk rfl
theorem own_not {W:World} {base g:Nat} {e t:TypeId} {size n:Nat} {v:Value} {xs:List Value} {cs:Array Value} (h:W.ownsRow base e size v n xs) (hg:Blk W g t cs) (hne:e≠t):g∉v.ownBlock.toList:=by
 intro hm
 have hm':v.ownBlock=some g:=by simpa[Option.mem_toList] using hm
 exact own_ne h hg hne _ hm' rfl
theorem LvI.push {w:World} {g b n:Nat} {lv:Value} {l:List (Int×Int)} {ev:Value} {Nb:Nat} {rv rv':Value} {Q:AR} {row row':List (Nat×NodeA)} {W W':World} (h:LvI w g b n lv l ev Nb rv Q row W) (ho:Only rv.ownBlock.toList W W') (hr:rowA W' w.heap.size rv' row'):LvI w g b n lv l ev Nb rv' Q row' W':=by
 refine⟨h.ar.only ho (own_not h.row h.ar.blk (by decide)) (own_not h.row h.ar.by' (by decide)),hr,ho.own h.en (own_apart h.en h.row (by decide)),h.only.trans ho (fun y hy=>Or.inr ?_)⟩
 have hm':rv.ownBlock=some y:=by simpa[Option.mem_toList] using hy
 exact(h.row.lt y hm').1
def LvsA (W:World) (N:Nat) (lv:Value) (rows:List (List (Nat×NodeA))):Prop:=
 ∃vs:List Value,vs.length=rows.length∧W.ownsRow N 80 1 lv rows.length vs∧ ∀(i:Nat) (row:List (Nat×NodeA)),rows[i]?=some row→ ∃v,vs[i]?=some v∧v.oneCell'=true∧rowA W N v row
theorem infoAts:(Tryz.prog.info? 80).map (fun i=>(i.zero,i.size,i.bytes))=some (some (.slice none 0 0),1,24):=by kernel_rfl
theorem LvsA.only {W W':World} {N:Nat} {lv:Value} {rows:List (List (Nat×NodeA))} {f:List Nat} (h:LvsA W N lv rows) (ho:Only f W W') (hf: ∀k∈f,W.heap.size≤k∨ ∃t cs,Blk W k t cs∧79≠t∧80≠t):LvsA W' N lv rows:=by
 obtain⟨vs,h1,h2,h3⟩:=h
 refine⟨vs,h1,ho.own h2 (fun k hk hm=> ?_),fun i row hi=> ?_⟩
 ·rcases hf k hm with h | ⟨t,cs,hb,_,hn⟩
  ·have:=(h2.lt k hk).2;omega
  ·exact own_ne h2 hb hn _ hk rfl
 ·obtain⟨v,q1,q3,q2⟩:=h3 i row hi
  refine⟨v,q1,q3,ho.own q2 (fun k hk hm=> ?_)⟩
  rcases hf k hm with h | ⟨t,cs,hb,hn,_⟩
  ·have:=(q2.lt k hk).2;omega
  ·exact own_ne q2 hb hn _ hk rfl
theorem lvs_push {W:World} {N g b n:Nat} {R:AR} {lv:Value} {rows:List (List (Nat×NodeA))} {row:List (Nat×NodeA)} {rv:Value} (hL:ArIs W g b n R lv) (hV:LvsA W N lv rows) (hrow:rowA W N rv row) (hN:N≤W.heap.size) (hrl:rows.length≤1000) (h1:rv.oneCell'=true):
  ∃va vc w9,appRun2 Tryz.prog #[49,49] 49 #[lv,.slice (some ⟨W.heap.size,0,none⟩) 1 1] (W.alloc (.cells #[rv] 80))= .ok (.slice va (rows.length+1) vc) w9∧(∃y,w9.cell? ⟨g,7,none⟩=some y)∧w9.frozen? ⟨g,7,none⟩=false∧
   ArIs (w9.setCell ⟨g,7,none⟩ (.slice va (rows.length+1) vc)) g b n R (.slice va (rows.length+1) vc)∧LvsA (w9.setCell ⟨g,7,none⟩ (.slice va (rows.length+1) vc)) N (.slice va (rows.length+1) vc) (rows++[row])∧Only (g::lv.ownBlock.toList) W (w9.setCell ⟨g,7,none⟩ (.slice va (rows.length+1) vc)):=by
 obtain⟨vs,q1,q2,q3⟩:=hV
 obtain⟨i0,hi0,hz0,hz1,hz2⟩:=info_parts infoAts
 have h5a:(W.alloc (.cells #[rv] 80)).ownsRow N 80 1 lv rows.length vs:=((Only.refl [] W).alloc _).own q2 (by simp)
 obtain⟨v',w9,hA⟩:=run_app (P:=Tryz.prog) (W.alloc (.cells #[rv] 80)) N 49 49 80 i0 _ 1 24 Tryz.underlying49 hi0 hz0 hz1 hz2 rfl (by decide) lv rows.length _ h5a (.slice (some ⟨W.heap.size,0,none⟩) 1 1) 1 [rv] (Or.inr ⟨W.heap.size,0,1,rfl,fun i u hi=>by
  rw[(Blk.new W 80 #[rv]).cell (0+i),Nat.zero_add];simpa using hi⟩) rfl (fun u hu=>by rw[List.mem_singleton.1 hu];exact h1) (by unfold maxLen;omega) (by omega) (by simp;omega)
 have hown:=hA.own
 have hgr:=hA.grown
 have hob:=hA.ob
 obtain⟨va,vc,rfl⟩:=row_form1 hown
 have o9:Only lv.ownBlock.toList W w9:=(((Only.refl [] W).alloc _).mono (fun _ h=>by cases h)).trans (Only.of_grown (f:=lv.ownBlock.toList) hgr (fun y hy=>by simp[hy])) (fun y hy=>Or.inl hy)
 have hL9:ArIs w9 g b n R lv:=hL.only o9 (own_not q2 hL.blk (by decide)) (own_not q2 hL.by' (by decide))
 have oS:Only [g] w9 (w9.setCell ⟨g,7,none⟩ (.slice va (rows.length+1) vc)):=(Only.refl _ _).setCell (Or.inl (by simp)) _
 have oAll:Only (g::lv.ownBlock.toList) W (w9.setCell ⟨g,7,none⟩ (.slice va (rows.length+1) vc)):=(o9.mono (fun _ h=>List.mem_cons_of_mem _ h)).trans oS (fun x hx=>Or.inl (by rw[List.mem_singleton.1 hx];exact List.mem_cons_self ..))
 have hkeep: ∀v r,rowA W N v r→rowA (w9.setCell ⟨g,7,none⟩ (.slice va (rows.length+1) vc)) N v r:=by
  intro v r hr
  refine oAll.own hr (fun k hk hm=> ?_)
  rcases List.mem_cons.1 hm with e | e
  ·exact own_ne hr hL.blk (by decide) _ hk e
  ·exact own_apart hr q2 (by decide) k hk e
 have hne:g∉ (Value.slice va (rows.length+1) vc).ownBlock.toList:=own_not hown hL9.blk (by decide)
 refine⟨va,vc,w9,hA.run,⟨_,hL9.blk.cell 7⟩,hL9.blk.frozen 7,⟨hL9.blk.set_ 7 _,oS.blk hL9.by' (by have:=hL9.ne;simp;exact fun e=>this e.symm),hL9.ln,hL9.big,hL9.byt⟩,⟨vs++[rv],by simp[q1],?_,fun i r hi=> ?_⟩,oAll⟩
 ·have:=oS.own hown (fun k hk hm=>hne (by simp at hm;subst hm;simpa[Option.mem_toList] using hk))
  rw[List.length_append,List.length_singleton]
  exact this
 ·by_cases hlt:i<rows.length
  ·rw[List.getElem?_append_left hlt] at hi
   obtain⟨v,e1,e3,e2⟩:=q3 i r hi
   exact⟨v,by rw[List.getElem?_append_left (by omega)];exact e1,e3,hkeep v r e2⟩
  ·have hil:=(List.getElem?_eq_some_iff.1 hi).1
   simp at hil
   have:i=rows.length:=by omega
   subst this
   rw[List.getElem?_append_right (Nat.le_refl _),Nat.sub_self] at hi
   injection hi with hi
   subst hi
   refine⟨rv,?_,h1,hkeep rv row hrow⟩
   rw[List.getElem?_append_right (by omega),q1,Nat.sub_self];rfl
theorem getD_u64 {own:List (Int×Int)} (h: ∀x∈own,U64 x.1∧U64 x.2) (i:Nat):U64 (own.getD i (0,0)).1∧U64 (own.getD i (0,0)).2:=by
 rw[List.getD_eq_getElem?_getD]
 cases hx:own[i]? with
 | none=>exact⟨⟨by decide,by decide⟩,⟨by decide,by decide⟩⟩
 | some x=>exact h x (List.mem_of_getElem? hx)
theorem ndOf_ok {lvl a:Nat} {z:Bool} {own:List (Int×Int)} (hl:lvl≤15) (ha:a<18446744073709551616) (hk: ∀x∈own,U64 x.1∧U64 x.2):NdOK (ndOf lvl a z own):=by
 have h0:U64 (0:Int):=⟨by omega,by omega⟩
 have hd: ∀x∈own.drop (if lvl=0 then 0 else 1),U64 x.1∧U64 x.2:=fun x hx=>hk x (List.mem_of_mem_drop hx)
 refine⟨⟨by show(0:Int)≤(lvl:Int);omega,by show(lvl:Int)≤15;omega⟩,?_,h0,h0,?_,fun i=>(getD_u64 hd i).1,fun i=>(getD_u64 hd i).2⟩
 ·show U64 (if z then 0 else(own.getD 0 (0,0)).1)
  split
  ·exact h0
  ·exact(getD_u64 hk 0).1
 ·show U64 (if lvl=0 then(a:Int) else(own.getD 0 (0,0)).2)
  split
  ·unfold U64;constructor<;>omega
  ·exact(getD_u64 hk 0).2
theorem rounds_bs {R:AR} (h:AROk R) (lvl per:Nat) (l:List (Int×Int)): ∀k,(R.rounds lvl per l k).1.bs.length=R.bs.length
 | 0=>rfl
 | k+1=>by
  show(R.rounds lvl per l k).1.newNode.1.bs.length=_
  rw[newNode_len (h.rounds lvl per l k),rounds_bs h lvl per l k]
theorem rounds_in {R:AR} (h:AROk R) {lvl per:Nat} {l:List (Int×Int)} (hl:lvl≤15) (hk: ∀x∈l,U64 x.1∧U64 x.2): ∀k,R.roomy lvl per l k→ ∀x∈(R.rounds lvl per l k).2,x.1+192≤R.bs.length∧NdOK x.2
 | 0,_,x,hx=>by cases hx
 | k+1,hr,x,hx=>by
  rcases List.mem_append.1 (show x∈(R.rounds lvl per l k).2++[_] from hx) with hx | hx
  ·exact rounds_in h hl hk k (fun i hi=>hr i (by omega)) x hx
  ·have hne:=hr k (by omega)
   obtain⟨s,j,e1,_,e2,e3⟩:=newNode_at (h.rounds lvl per l k) hne
   have hlen:=(h.rounds lvl per l (k+1)).len
   have hbs:=rounds_bs h lvl per l (k+1)
   have e2':s≤(R.rounds lvl per l (k+1)).1.slabs:=e2
   have hs64:=(h.rounds lvl per l (k+1)).s64
   rw[List.mem_singleton.1 hx]
   refine⟨by show(R.rounds lvl per l k).1.newNode.2+192≤_;rw[e1];omega,ndOf_ok hl (by rw[e1];omega) (fun y hy=>hk y ?_)⟩
   unfold ownK at hy
   exact List.mem_of_mem_drop (List.mem_of_mem_take hy)
theorem linkTo_at {row:List (Nat×NodeA)} {j i:Nat} {x:Nat×NodeA} (h:row[i]?=some x):(linkTo row j)[i]?=some (x.1,if i<j∧i+1<row.length then{ x.2 with nx:=((row.getD (i+1) (0,zeroN)).1:Int) } else x.2):=by
 unfold linkTo
 rw[List.getElem?_mapIdx,h];rfl
theorem linkTo_next {row:List (Nat×NodeA)} {i:Nat} {x:Nat×NodeA} (h:row[i]?=some x) (h1:i+1<row.length):(linkTo row i).set i (x.1,{ x.2 with nx:=((row.getD (i+1) (0,zeroN)).1:Int) })=linkTo row (i+1):=by
 apply List.ext_getElem?
 intro k
 rw[List.getElem?_set]
 by_cases hk:i=k
 ·subst hk
  rw[if_pos rfl,if_pos (by rw[linkTo_len];omega),linkTo_at h,if_pos ⟨by omega,h1⟩]
 ·rw[if_neg hk]
  cases hx:row[k]? with
  | none=>
   have hl:=List.getElem?_eq_none_iff.1 hx
   rw[List.getElem?_eq_none (by rw[linkTo_len];exact hl),List.getElem?_eq_none (by rw[linkTo_len];exact hl)]
  | some y=>
   rw[linkTo_at hx,linkTo_at hx]
   have:(k<i∧k+1<row.length)=(k<i+1∧k+1<row.length):=by apply propext;constructor<;>(rintro⟨h1,h2⟩;exact⟨by omega,h2⟩)
   simp only[this]
theorem linkTo_last {row:List (Nat×NodeA)} {i:Nat} (h1: ¬i+1<row.length):linkTo row i=linkTo row (i+1):=by
 apply List.ext_getElem?
 intro k
 cases hx:row[k]? with
 | none=>
  have hl:=List.getElem?_eq_none_iff.1 hx
  rw[List.getElem?_eq_none (by rw[linkTo_len];exact hl),List.getElem?_eq_none (by rw[linkTo_len];exact hl)]
 | some y=>
  rw[linkTo_at hx,linkTo_at hx]
  have:(k<i∧k+1<row.length)=(k<i+1∧k+1<row.length):=by apply propext;constructor<;>(rintro⟨h1,h2⟩;exact⟨by omega,h2⟩)
  simp only[this]
theorem linked_at {row:List (Nat×NodeA)} {i:Nat} {x:Nat×NodeA} (h:row[i]?=some x):(linked row)[i]?=(linkTo row (i+1))[i]?:=by
 have hl:=(List.getElem?_eq_some_iff.1 h).1
 unfold linked
 rw[linkTo_at h,linkTo_at h]
 have:(i<row.length∧i+1<row.length)=(i<i+1∧i+1<row.length):=by apply propext;constructor<;>(rintro⟨h1,h2⟩;exact⟨by omega,h2⟩)
 simp only[this]
theorem layRow_next {R:AR} {row:List (Nat×NodeA)} {i:Nat} {x:Nat×NodeA} (h:(linked row)[i]?=some x):R.layRow row (i+1)=(R.layRow row i).lay x.1 x.2:=by
 unfold AR.layRow
 rw[List.take_add_one,h,Option.toList_some,List.foldl_append];rfl
theorem linkTo_in {row:List (Nat×NodeA)} {M:Nat} (hM:M≤1000000) (h: ∀x∈row,x.1+192≤M∧NdOK x.2) (j:Nat): ∀x∈linkTo row j,x.1+192≤M∧NdOK x.2:=by
 intro x hx
 obtain⟨i,hi⟩:=List.getElem?_of_mem hx
 have hl:i<row.length:=by have:=(List.getElem?_eq_some_iff.1 hi).1;rw[linkTo_len] at this;exact this
 have hy:row[i]?=some row[i]:=List.getElem?_eq_getElem hl
 rw[linkTo_at hy] at hi
 injection hi with hi
 have h0:=h _ (List.mem_of_getElem? hy)
 subst hi
 refine⟨h0.1,?_⟩
 show NdOK (if _ then _ else _)
 split
 ·rename_i hc
  have hz:row[i+1]?=some row[i+1]:=List.getElem?_eq_getElem hc.2
  have h2:=h _ (List.mem_of_getElem? hz)
  refine⟨h0.2.lv,h0.2.low,?_,h0.2.ct,h0.2.fi,h0.2.k,h0.2.p⟩
  show U64 ((row.getD (i+1) (0,zeroN)).1:Int)
  rw[List.getD_eq_getElem?_getD,hz]
  show U64 ((row[i+1].1:Nat):Int)
  unfold U64
  constructor<;>omega
 ·exact h0.2
structure LyJ (w:World) (g b n:Nat) (lv:Value) (rv:Value) (Q:AR) (row:List (Nat×NodeA)) (W:World):Prop where
 ar:ArIs W g b n Q lv
 row:rowA W w.heap.size rv row
 only:Only [g,b] w W
theorem LyJ.arena {w:World} {g b n:Nat} {lv:Value} {rv:Value} {Q Q':AR} {row:List (Nat×NodeA)} {W W':World} (h:LyJ w g b n lv rv Q row W) (hA:ArIs W' g b n Q' lv) (ho:Only [b] W W'):LyJ w g b n lv rv Q' row W':=by
 refine⟨hA,ho.own h.row (fun k hk hm=> ?_),h.only.trans ho (fun _ h=>Or.inl (by simp at h ⊢;exact Or.inr h))⟩
 simp at hm
 subst hm
 exact own_ne h.row h.ar.by' (by decide) _ hk rfl
theorem LyJ.set {w:World} {g b n rb m c:Nat} {lv:Value} {Q:AR} {row row':List (Nat×NodeA)} {W:World} (h:LyJ w g b n lv (.slice (some ⟨rb,0,none⟩) m c) Q row W) (hm:m=row.length) (hl:row'.length=row.length) (i:Nat) (v:Value) (hs:(atsV row).set i v=atsV row'):LyJ w g b n lv (.slice (some ⟨rb,0,none⟩) m c) Q row' (W.setCell ⟨rb,i,none⟩ v):=by
 subst hm
 have ho:Only [rb] W (W.setCell ⟨rb,i,none⟩ v):=(Only.refl _ _).setCell (Or.inl (by simp)) _
 have h1:g≠rb:=by
  have:=own_not h.row h.ar.blk (by decide)
  intro e;exact this (by simp[Value.ownBlock,e])
 have h2:b≠rb:=by
  have:=own_not h.row h.ar.by' (by decide)
  intro e;exact this (by simp[Value.ownBlock,e])
 refine⟨h.ar.only ho (by simpa using h1) (by simpa using h2),?_,h.only.trans ho (fun y hy=>Or.inr ?_)⟩
 ·have:=own_set2 h.row i v
  rw[hs] at this
  unfold rowA
  rw[hl]
  exact this
 ·simp at hy;subst hy
  exact(h.row.lt _ rfl).1
theorem LyJ.bel {w:World} {g b n:Nat} {lv:Value} {rv:Value} {Q:AR} {row:List (Nat×NodeA)} {W W':World} (h:LyJ w g b n lv rv Q row W) (hb:Below W.heap.size W W'):LyJ w g b n lv rv Q row W':=
 ⟨h.ar.bel hb,(Only.of_below hb []).own h.row (by simp),h.only.trans (Only.of_below hb []) (by simp)⟩
theorem at_node_ld {W:World} {N rb m c:Nat} {row:List (Nat×NodeA)} {i:Nat} {xx:Nat×NodeA} (h:rowA W N (.slice (some ⟨rb,0,none⟩) m c) row) (hxx:row[i]?=some xx):ldR Tryz.prog 77 (.pointer (some ⟨rb,i*22+1,none⟩)) W= .ok (.agg (nodeC xx.2)) W:=by
 have hl:=(List.getElem?_eq_some_iff.1 hxx).1
 rcases h.2 with⟨h1,_⟩ | ⟨g',cap',cur,h1,h2,h3,h4,h5,h6,h7⟩
 ·cases h1
 ·injection h1 with h1 hm hc
  injection h1 with h1
  injection h1 with h1
  subst h1 hc hm
  have hB:Blk W rb 79 cur:=h3
  refine hB.ldAt (i*22+1) (fun j v hv=> ?_) Tryz.underlying77 rfl (by kernel_rfl)
  have hj:j<21:=(Array.getElem?_eq_some_iff.1 hv).1
  rw[←hB.cell,h.cellAt _ (by omega),Nat.add_assoc,atsV_at hxx (1+j) (by omega),atC_node _ _ hj]
  exact hv
theorem own_less {W:World} {base base':Nat} {e:TypeId} {size n:Nat} {v:Value} {xs:List Value} (h:W.ownsRow base e size v n xs) (hb:base'≤base):W.ownsRow base' e size v n xs:=by
 rcases h.2 with h1 | ⟨g,cap,cur,h1,h2,h3⟩
 ·exact⟨h.1,Or.inl h1⟩
 ·exact⟨h.1,Or.inr ⟨g,cap,cur,h1,Nat.le_trans hb h2,h3⟩⟩
def LvPs (w:World) (N g b n:Nat) (R:AR) (lv:Value) (rows:List (List (Nat×NodeA))) (lvl per:Nat) (l:List (Int×Int)) (e:Ending) (w':World):Prop:=
 Only (g::b::lv.ownBlock.toList) w w'∧
 ((e= .returned (.bool false)∧ ¬R.roomy lvl per l (nRounds per l))∨
  (e= .returned (.bool true)∧R.roomy lvl per l (nRounds per l)∧ ∃lv',ArIs w' g b n (R.level lvl per l) lv'∧LvsA w' N lv' (rows++[R.levelRow lvl per l])))
theorem ALevel_z (N g b n:Nat) (R:AR) (lv:Value) (rows:List (List (Nat×NodeA))) (lvl per:Nat) (l:List (Int×Int)) (ev:Value) (Nb:Nat) (hlv:lvl≤15) (hp:2≤per) (hp8:per≤8) (hl:l.length≤1000) (hl0:lvl≠0→l≠[]) (hk: ∀x∈l,U64 x.1∧U64 x.2) (w:World) (h:ArIs w g b n R lv) (hok:AROk R)
  (he:w.ownsRow Nb 130 2 ev l.length (l.flatMap entC)) (hN:N≤w.heap.size) (hL:LvsA w N lv rows) (hrw:rows.length≤100):
  Calls Tryz.prog 70 #[.pointer (some ⟨g,0,none⟩),.int .i64 (lvl:Int),ev,.int .i64 (per:Int)] w fun e w'=>LvPs w N g b n R lv rows lvl per l e w':=by
 have HI0:Hid (LvI w g b n lv l ev Nb (.slice none 0 0) (R.rounds lvl per l 0).1 (R.rounds lvl per l 0).2 w):=hid ⟨h,World.ownsRow_nil _ _ _ _,he,Only.refl _ _⟩
 have HR0:Hid (R.roomy lvl per l 0):=hid (fun k hk=>absurd hk (Nat.not_lt_zero _))
 obtain⟨eo,ec,hev⟩: ∃eo ec,ev= .slice eo l.length ec:=row_form1 he
 obtain⟨m,hm⟩: ∃m,m=l.length:=⟨_,rfl⟩
 rw[hev,←hm]
 have HEV:=hid (⟨hev,hm⟩:_∧_)
 have H:=hid h
 have HOK:=hid hok
 have HL:=hid (⟨hN,hL,hrw⟩:_∧_∧_)
 have HM:=hid (⟨hm,hlv,hp,hp8,hl,hl0,hk⟩:m=l.length∧lvl≤15∧2≤per∧per≤8∧l.length≤1000∧(lvl≠0→l≠[])∧(∀x∈l,U64 x.1∧U64 x.2))
 clear h hok he hev hm hlv hp hp8 hl hl0 hk hN hL hrw
 go_enter Tryz.func70,Tryz.ntmps70
 go_wp2
 go_loopw [9,10] (fun rv fv wr=> ∃(k fr:Nat) (ro:Option Addr) (rc:Nat),Hid (fr=k*per∧(k=0∨fr<m))∧fv= .int .i64 (fr:Int)∧rv= .slice ro k rc∧Hid (LvI w g b n lv l ev Nb (.slice ro k rc) (R.rounds lvl per l k).1 (R.rounds lvl per l k).2 wr)∧Hid (R.roomy lvl per l k)) (fun _ fv _=>m+1- (intOf fv).toNat)
 case atStart=>exact⟨0,0,none,0,hid ⟨by omega,Or.inl rfl⟩,rfl,rfl,HI0,HR0⟩
 case round=>
  obtain⟨k,fr,ro,rc,hK,rfl,rfl,hI,hR⟩:=hrel
  obtain⟨wA,rfl⟩: ∃y,y=wr:=⟨_,rfl⟩
  have hM:=HM.out
  have hKo:=hK.out
  have hfm:fr≤m:=by rcases hKo.2 with h | h;(rw[hKo.1,h];omega);omega
  clear HI0 HR0
  go_upto_region 3 with fail
  go_cut [24] from 17 to 24 (fun c wc=>c= .bool true∧Hid (wc=wA))
  case first=>
   by_cases q:fr<m
   ·have i1:(fr:Int)< (m:Int):=by omega
    clear q hM hKo hfm
    go_wp2
    go_meet
    exact⟨rfl,hid rfl⟩
   ·have i1: ¬(fr:Int)< (m:Int):=by omega
    have e0:((fr:Int)==0)=true:=by
     have:fr=0:=by rcases hKo.2 with h | h;(rw[hKo.1,h];omega);omega
     simp[this]
    clear q hM hKo hfm
    go_wp2
    go_meet
    exact⟨rfl,hid rfl⟩
  case rest=>
   obtain⟨rfl,hwc⟩:=hcut
   obtain rfl:=hwc.out
   clear hwc
   obtain⟨s,hs⟩: ∃s,s=fr+per:=⟨_,rfl⟩
   obtain⟨tt,htt⟩: ∃tt,tt=min s m:=⟨_,rfl⟩
   have ws:IntKind.i64.wrap ((fr:Int)+(per:Int))=(s:Int):=by rw[IntWalk.i64_in _ (by constructor<;>omega)];omega
   have wm:min (s:Int) (m:Int)=(tt:Int):=by omega
   have NN:=hid (ANewNode_z g b n (R.rounds lvl per l k).1 lv wc hI.out.ar (HOK.out.rounds lvl per l k))
   have HT:=hid (⟨hs,htt,hfm⟩:_∧_∧_)
   obtain⟨at',hat⟩: ∃a,a=(R.rounds lvl per l k).1.newNode.2:=⟨_,rfl⟩
   rw[←hat] at NN
   have HAT:=hid hat
   have hbig:=hI.out.ar.big
   have hok2:=HOK.out.rounds lvl per l (k+1)
   obtain⟨Q,hQ⟩: ∃Q,Q=(R.rounds lvl per l k).1.newNode.1:=⟨_,rfl⟩
   have hok2:AROk Q:=by rw[hQ];exact hok2
   have hQn:n=Q.bs.length:=by rw[hQ,newNode_len (HOK.out.rounds lvl per l k)];exact hI.out.ar.ln
   have hslot:at'≠0→at'+192≤n:=by
    intro hne
    rw[hat] at hne
    obtain⟨s1,j1,e1,_,e2,e3⟩:=newNode_at (HOK.out.rounds lvl per l k) hne
    rw[hat,e1]
    rw[show(R.rounds lvl per l k).1.newNode.1=Q from hQ.symm] at e2
    have h1:=hok2.len
    have h2:n=Q.bs.length:=hQn
    omega
   rw[←hQ] at NN
   obtain⟨own,hown⟩: ∃own,own=ownK per l k:=⟨_,rfl⟩
   obtain⟨mo,hmo⟩: ∃mo,mo=own.length:=⟨_,rfl⟩
   have hmo2:mo+fr=tt:=by
    rw[hmo,hown];unfold ownK;rw[List.length_take,List.length_drop,←hKo.1,←hM.1];omega
   have HQ:=hid (⟨hat,hQ,hown,hmo⟩:_∧_∧_∧_)
   have HTT:=hid (⟨hs,htt,hfm,hmo2,hbig⟩:_∧_∧_∧_∧_)
   clear HT HAT
   clear hs htt hat hfm hKo hM hok2 hQ hQn hown hmo hmo2 hbig
   go_wp2_with fail
   refine NN.out.mono ?_
   rintro e w2 ⟨rfl,hA2,ho2⟩
   have HI2:=hid (hI.out.arena hA2 ho2)
   clear hA2 ho2
   by_cases qa:at'=0
   ·have b0:((at':Int)==0)=true:=by simp[qa]
    have HF:Hid (¬R.roomy lvl per l (nRounds per l)):=hid (fun hh=>hh k (nRounds_gt (by have:=HM.out;omega) (by have h1:=HM.out;have h2:=hK.out;rw[←h1.1,←h2.1];exact h2.2)) (by rw[←HQ.out.1];exact qa))
    clear hslot qa
    go_wp2
    go_ret
    exact⟨HI2.out.only.mono (by intro x hx;simp at hx ⊢;rcases hx with h | h;exact Or.inl h;exact Or.inr (Or.inl h)),Or.inl ⟨rfl,HF.out⟩⟩
   ·have b0:((at':Int)==0)=false:=by simp;omega
    have ha192:=hslot qa
    have wat:IntKind.u64.wrap (at':Int)=(at':Int):=IntWalk.u64_in _ (by have:=HTT.out;constructor<;>omega)
    have HAT:=hid (⟨qa,ha192⟩:_∧_)
    clear hslot qa ha192
    have k3:Blk (w2.alloc (.cells #[.int .u64 0,.int .i64 0,.int .u64 0,.int .u64 0,.int .u64 0,.int .u64 0,.int .u64 0,.int .u64 0,.int .u64 0,.int .u64 0,.int .u64 0,.int .u64 0,.int .u64 0,.int .u64 0,.int .u64 0,.int .u64 0,.int .u64 0,.int .u64 0,.int .u64 0,.int .u64 0,.int .u64 0,.int .u64 0] 79)) w2.heap.size 79 (atC 0 zeroN):=Blk.new _ _ _
    obtain⟨w4,hst,hk4,ho4⟩:=at_st (a':=(at':Int)) (n':=nd0 lvl 0 at') k3
    have hbu: ∀W,bldR2 Tryz.prog 77 #[(0,.int .i64 (lvl:Int)),(4,.int .u64 (at':Int))] W= .ok (.agg (nodeC (nd0 lvl 0 at'))) W:=fun W=>node_built lvl at' W
    have hbu2:=fun W=>at_built (at':Int) (nd0 lvl 0 at') W
    have hb4:Below w2.heap.size w2 w4:=(ba (Below.refl _ _) _).trans (ho4.below (fun y hy=>by simp at hy;omega) (by simp))
    obtain⟨B,hB⟩: ∃B,B=w2.heap.size:=⟨_,rfl⟩
    have HX4:Hid (Below B w2 w4∧Blk w4 B 79 (atC at' (nd0 lvl 0 at'))):=hid (by rw[hB];exact⟨hb4,hk4⟩)
    clear k3 hk4 ho4 hb4
    go_upto_region 10 with fail
    rw[←hB]
    have HB:=hid hB
    clear hB hst hbu hbu2 b0 wat ws wm NN
    go_cut [14,16] from 14 to 48 (fun o z wc=>z=undef∧ ∃oo oc,o= .slice oo mo oc∧mo≤oc∧Hid (EntsAt w2 (.slice oo mo oc) own)∧Hid (wc=w4))
    case first=>
     obtain⟨ao,cap,h1,h2,h3⟩:=ents_part HI2.out.en fr mo (by have h4:=HTT.out;have h5:=HEV.out.2;omega)
     rw[HEV.out.1] at h1
     injection h1 with h1 _ h1c
     subst h1 h1c
     have hown:(l.drop fr).take mo=own:=by
      have h6:=HQ.out
      rw[h6.2.2.2,h6.2.2.1];unfold ownK
      rw[hK.out.1,List.length_take]
      exact(List.take_eq_take_min).symm
     rw[hown] at h3
     have i1:(0:Int)≤(fr:Int):=by omega
     have hT:=HTT.out
     have i2:(fr:Int)≤(tt:Int):=by omega
     rcases h3 with⟨rfl,hl,rfl⟩ | ⟨eb,rfl,hE⟩
     ·have hlen:m=0:=by rw[HEV.out.2,hl];rfl
      have f0:fr=0:=by omega
      have t0:tt=0:=by omega
      have m0:mo=0:=by omega
      subst f0 t0 m0 hlen
      have HE:Hid (EntsAt w2 (.slice none 0 0) own):=hid (by
       have:own=[]:=List.eq_nil_of_length_eq_zero HQ.out.2.2.2.symm
       rw[this];exact⟨none,0,rfl,Or.inl rfl⟩)
      clear h2 hown i1 i2 hT hl
      go_wp2
      go_meet
      exact⟨rfl,_,_,rfl,Nat.le_refl _,HE,hid rfl⟩
     ·have i3:(tt:Int)≤(ec:Int):=by have:=HEV.out.2;omega
      have HE:=hid (hE (ec-fr))
      have e1:(tt:Int)- (fr:Int)=(mo:Int):=by omega
      have e2:tt-fr=mo:=by omega
      have HLE:Hid (mo≤ec-fr):=hid (by have:=HEV.out.2;omega)
      by_cases qc:fr=ec
      ·have m0:mo=0:=by have:=HEV.out.2;omega
       have e3:(ec:Int)- (fr:Int)=0:=by omega
       have HE0:Hid (EntsAt w2 (.slice (some ⟨eb,0,none⟩) 0 0) own):=hid (by
        have:own=[]:=List.eq_nil_of_length_eq_zero (by rw[←HQ.out.2.2.2,m0])
        rw[this];exact⟨_,_,rfl,Or.inl rfl⟩)
       subst qc m0
       clear h2 hown hT hE
       go_wp2
       go_meet
       exact⟨rfl,_,_,rfl,Nat.le_refl _,HE0,hid rfl⟩
      ·have e3: ¬(ec:Int)- (fr:Int)=0:=by have:=HEV.out.2;omega
       have e4: ¬fr=ec:=qc
       clear h2 hown hT hE qc
       go_wp2
       go_meet
       exact⟨rfl,_,_,rfl,HLE.out,HE,hid rfl⟩
    case rest=>
     obtain⟨rfl,oo,oc,rfl,hoc,hE,hwc⟩:=hcut
     obtain rfl:=hwc.out
     clear hwc
     obtain⟨L1,hL1⟩: ∃x,x=(own.getD 0 (0,0)).1:=⟨_,rfl⟩
     obtain⟨P1,hP1⟩: ∃x,x=(own.getD 0 (0,0)).2:=⟨_,rfl⟩
     have HLP:=hid (⟨hL1,hP1⟩:_∧_)
     have HML:=hid (ents_len hE.out)
     go_upto_if 51 with fail
     go_cut [] from 50 to 57 (fun wd=>Hid (Below B w2 wd∧Blk wd B 79 (atC at' (nd0 lvl L1 at'))))
     case first=>
      by_cases q:0<mo
      ·have i1:(0:Int)< (mo:Int):=by omega
       obtain⟨eb,off,rfl,heb,hc⟩:=ents_cell (hE.out.bel (by rw[←HB.out];exact HX4.out.1)) (by have:=HML.out;omega)
       have c0:wc.cell? ⟨eb,off,none⟩=some (.int .u64 L1):=by have:=(hc 0 (by have:=HML.out;omega)).1;rw[hL1];simpa using this
       have d2:wc.cell? ⟨B,2,none⟩=some (.int .u64 0):=HX4.out.2.cell 2
       have f2:=HX4.out.2.frozen 2
       have HN:Hid (Below B w2 (wc.setCell ⟨B,2,none⟩ (.int .u64 L1))∧Blk (wc.setCell ⟨B,2,none⟩ (.int .u64 L1)) B 79 (atC at' (nd0 lvl L1 at'))):=
        hid ⟨HX4.out.1.setCell (Nat.le_refl _) _,HX4.out.2.set_ 2 _⟩
       clear hL1 hP1 hc heb
       go_wp2
       go_meet
       exact HN
      ·have i1: ¬(0:Int)< (mo:Int):=by omega
       have HN:Hid (Below B w2 wc∧Blk wc B 79 (atC at' (nd0 lvl L1 at'))):=by
        have e:L1=0:=by
         rw[hL1,List.getD_eq_getElem?_getD,List.getElem?_eq_none (by have:=HML.out;omega)];rfl
        rw[e];exact HX4
       clear hL1 hP1
       go_wp2
       go_meet
       exact HN
     case rest=>
      obtain⟨wc1,rfl⟩: ∃x,x=wc:=⟨_,rfl⟩
      clear HX4
      obtain⟨L2,hL2⟩: ∃x,x=(if(k==0)=true then 0 else L1):=⟨_,rfl⟩
      have HL2:=hid hL2
      go_upto_if 59 with fail
      go_cut [] from 59 to 61 (fun wd=>Hid (Below B w2 wd∧Blk wd B 79 (atC at' (nd0 lvl L2 at'))))
      case first=>
       by_cases q:fr=0
       ·have b1:((fr:Int)==0)=true:=by simp[q]
        have k0:k=0:=by
         have h1:=hK.out.1
         have h2:=HM.out
         rcases Nat.eq_zero_or_pos k with h | h
         ·exact h
         ·have:per≤k*per:=Nat.le_mul_of_pos_left _ h
          omega
        have e0:L2=0:=by rw[hL2,k0];rfl
        have d2: ∃y,wc1.cell? ⟨B,2,none⟩=some y:=⟨_,hcut.out.2.cell 2⟩
        obtain⟨y2,d2⟩:=d2
        have f2:=hcut.out.2.frozen 2
        have HN:Hid (Below B w2 (wc1.setCell ⟨B,2,none⟩ (.int .u64 0))∧Blk (wc1.setCell ⟨B,2,none⟩ (.int .u64 0)) B 79 (atC at' (nd0 lvl L2 at'))):=by
         rw[e0]
         exact hid ⟨hcut.out.1.setCell (Nat.le_refl _) _,hcut.out.2.set_ 2 _⟩
        clear hL1 hP1 q k0 hL2 e0
        go_wp2
        go_meet
        exact HN
       ·have b1:((fr:Int)==0)=false:=by simp;omega
        have e0:L2=L1:=by
         have:k≠0:=fun h=>q (by rw[hK.out.1,h];omega)
         rw[hL2];simp[this]
        have HN:Hid (Below B w2 wc1∧Blk wc1 B 79 (atC at' (nd0 lvl L2 at'))):=by rw[e0];exact hcut
        clear hL1 hP1 q hL2 e0
        go_wp2
        go_meet
        exact HN
      case rest=>
       obtain⟨wc2,rfl⟩: ∃x,x=wc:=⟨_,rfl⟩
       have HX5:=hcut
       clear hcut
       obtain⟨own2,hown2⟩: ∃x,x=own.drop (if lvl=0 then 0 else 1):=⟨_,rfl⟩
       obtain⟨F1,hF1⟩: ∃x,x=(if lvl=0 then(at':Int) else P1):=⟨_,rfl⟩
       have HF1:=hid (⟨hown2,hF1⟩:_∧_)
       go_upto_if 63 with fail
       go_cut [14,16] from 14 to 71 (fun o z wd=>z=undef∧ ∃o2 m2 c2,o= .slice o2 m2 c2∧Hid (EntsAt w2 (.slice o2 m2 c2) own2)∧Hid (Below B w2 wd∧Blk wd B 79 (atC at' (nd0 lvl L2 F1))))
       case first=>
        by_cases q:0<lvl
        ·have i1:(0:Int)< (lvl:Int):=by omega
         have hmo:0<mo:=by
          have h1:=HM.out
          have h2:=hK.out
          have h3:=HTT.out
          have h4:m≠0:=by
           intro e
           exact h1.2.2.2.2.2.1 (by omega) (List.eq_nil_of_length_eq_zero (by omega))
          have h5:fr<m:=by rcases h2.2 with h | h;(rw[h2.1,h];omega);exact h
          omega
         obtain⟨eb,off,rfl,heb,hc⟩:=ents_cell (hE.out.bel (by rw[←HB.out];exact HX5.out.1)) (by have:=HML.out;omega)
         have c1:wc2.cell? ⟨eb,off+1,none⟩=some (.int .u64 P1):=by have:=(hc 0 (by have:=HML.out;omega)).2;rw[hP1];simpa using this
         have d5:wc2.cell? ⟨B,5,none⟩=some (.int .u64 at'):=HX5.out.2.cell 5
         have f5:=HX5.out.2.frozen 5
         have hF:F1=P1:=by rw[hF1,if_neg (by omega)]
         have HN:Hid (Below B w2 (wc2.setCell ⟨B,5,none⟩ (.int .u64 P1))∧Blk (wc2.setCell ⟨B,5,none⟩ (.int .u64 P1)) B 79 (atC at' (nd0 lvl L2 F1))):=by
          rw[hF]
          exact hid ⟨HX5.out.1.setCell (Nat.le_refl _) _,HX5.out.2.set_ 5 _⟩
         have ho2:own2=own.drop 1:=by rw[hown2,if_neg (by omega)]
         have HO2:=hid ho2
         have j1:(1:Int)≤(mo:Int):=by omega
         have j2:(mo:Int)≤(oc:Int):=by omega
         have e1:(mo:Int)-1=((mo-1:Nat):Int):=by omega
         have HEn:Hid (EntsAt w2 (.slice (some ⟨eb,off+2,none⟩) (mo-1) (oc-1)) own2):=by
          obtain⟨ao,cap,h1,h2⟩:=hE.out
          injection h1 with h1 _ _
          subst h1
          have hml:=HML.out
          refine hid ⟨_,oc-1,by rw[ho2,List.length_drop,hml],?_⟩
          rcases h2 with h2 | ⟨b',o',h3,h4,h5⟩
          ·rw[h2] at hml;simp at hml;omega
          ·injection h3 with h3
           injection h3 with h6 h7
           subst h6 h7
           refine Or.inr ⟨_,_,rfl,h4,fun i x hi=> ?_⟩
           rw[ho2,List.getElem?_drop] at hi
           have:=h5 (1+i) x hi
           rw[show off+(1+i)*2=off+2+i*2 by omega] at this
           exact this
         by_cases qc:oc=1
         ·have m1:mo=1:=by omega
          have HE0:Hid (EntsAt w2 (.slice (some ⟨eb,off,none⟩) 0 0) own2):=hid (by
           have:own2=[]:=by rw[ho2];exact List.eq_nil_of_length_eq_zero (by rw[List.length_drop,←HML.out,m1])
           rw[this];exact⟨_,_,rfl,Or.inl rfl⟩)
          subst qc m1
          clear hL1 hP1 hL2 hown2 hF1 hF ho2 hc heb HEn hmo e1 hoc
          go_wp2
          go_meet
          exact⟨rfl,_,_,_,rfl,HE0,HN⟩
         ·have e3: ¬(oc:Int)-1=0:=by omega
          have e4: ¬oc=1:=qc
          have e5: ¬1=oc:=fun h=>qc h.symm
          clear hL1 hP1 hL2 hown2 hF1 hF ho2 hc heb hmo qc
          go_wp2
          go_meet
          exact⟨rfl,_,_,_,rfl,HEn,HN⟩
        ·have l0:lvl=0:=by omega
         have HN:Hid (Below B w2 wc2∧Blk wc2 B 79 (atC at' (nd0 lvl L2 F1))):=by
          rw[hF1,if_pos l0];exact HX5
         have HE2:Hid (EntsAt w2 (.slice oo mo oc) own2):=by
          rw[hown2,if_pos l0];exact hE
         have HL0:=hid l0
         have i1: ¬(0:Int)< (lvl:Int):=by omega
         clear hL1 hP1 hL2 hown2 hF1 l0
         go_wp2
         go_meet
         exact⟨rfl,_,_,_,rfl,HE2,HN⟩
       case rest=>
        obtain⟨rfl,o2,m2,c2,rfl,hE2,HX6⟩:=hcut
        have hm8:m2≤8:=by
         have h1:=ents_len hE2.out
         have h2:=HML.out
         have h3:=HTT.out
         have h4:=HM.out
         rw[h1,hown2,List.length_drop,←h2]
         omega
        have HM8:=hid hm8
        have HI20:Hid (Below B w2 wc∧Blk wc B 79 (atC at' (ndTo (nd0 lvl L2 F1) own2 0))):=HX6
        obtain⟨wc3,rfl⟩: ∃x,x=wc:=⟨_,rfl⟩
        clear HX6 hm8 hL1 hP1 hL2 hown2 hF1
        go_wp2
        go_loopw [15] (fun iv wr=> ∃j:Nat,j≤m2∧iv= .int .i64 (j:Int)∧Hid (Below B w2 wr∧Blk wr B 79 (atC at' (ndTo (nd0 lvl L2 F1) own2 j)))) (fun iv _=>(m2- (intOf iv).toNat))
        case atStart=>exact⟨0,Nat.zero_le _,rfl,HI20⟩
        case round=>
         obtain⟨j,hj,rfl,hJ⟩:=hrel
         clear HI20
         obtain⟨wB,rfl⟩: ∃y,y=wr:=⟨_,rfl⟩
         by_cases hlt:j<m2
         ·have i1:(j:Int)< (m2:Int):=by omega
          have i0:(0:Int)≤(j:Int):=by omega
          have i8:(j:Int)<8:=by have:=HM8.out;omega
          obtain⟨eb,off,rfl,heb,hc⟩:=ents_cell (hE2.out.bel (by rw[←HB.out];exact hJ.out.1)) (by have:=ents_len hE2.out;omega)
          have hj8:j<8:=by omega
          have hj2:j<own2.length:=by have:=ents_len hE2.out;omega
          obtain⟨x,hx⟩: ∃x,own2[j]?=some x:=⟨_,List.getElem?_eq_getElem hj2⟩
          have hxd:own2.getD j (0,0)=x:=by rw[List.getD_eq_getElem?_getD,hx];rfl
          have ck:wB.cell? ⟨eb,off+j*2,none⟩=some (.int .u64 x.1):=by have:=(hc j hj2).1;rw[hxd] at this;exact this
          have cp:wB.cell? ⟨eb,off+j*2+1,none⟩=some (.int .u64 x.2):=by have:=(hc j hj2).2;rw[hxd] at this;exact this
          have dk:wB.cell? ⟨B,6+j,none⟩=some (.int .u64 ((ndTo (nd0 lvl L2 F1) own2 j).k j)):=(hJ.out.2.cell (6+j)).trans (atC_k _ _ hj8)
          have dp:wB.cell? ⟨B,14+j,none⟩=some (.int .u64 ((ndTo (nd0 lvl L2 F1) own2 j).p j)):=(hJ.out.2.cell (14+j)).trans (atC_p _ _ hj8)
          have fk:=hJ.out.2.frozen (6+j)
          have fp:=hJ.out.2.frozen (14+j)
          have hebB:eb≠B:=by have h1:=(hE2.out);obtain⟨ao,cap,h2,h3⟩:=h1;injection h2 with h2 _ _;subst h2;rcases h3 with h3 | ⟨b',o',h4,h5,_⟩;(rw[h3] at hj2;simp at hj2);(injection h4 with h4;injection h4 with h4 _;subst h4;have:=HB.out;omega)
          have hebB2: ¬B=eb:=fun h=>hebB h.symm
          have HA:=hid (⟨hj8,hx,hlt⟩:_∧_∧_)
          clear hj hlt hc hj8 hj2 hx hxd heb
          go_upto_region 21 with fail
          go_region
          have hN:Hid (Below B w2 ((wB.setCell ⟨B,6+j,none⟩ (.int .u64 x.1)).setCell ⟨B,14+j,none⟩ (.int .u64 x.2)).drew∧Blk ((wB.setCell ⟨B,6+j,none⟩ (.int .u64 x.1)).setCell ⟨B,14+j,none⟩ (.int .u64 x.2)).drew B 79 (atC at' (ndTo (nd0 lvl L2 F1) own2 (j+1)))):=by
           refine hid ⟨((hJ.out.1.setCell (Nat.le_refl _) _).setCell (Nat.le_refl _) _).drew,?_⟩
           have h1:=((hJ.out.2.set_ (6+j) (.int .u64 x.1)).set_ (14+j) (.int .u64 x.2)).drew
           rw[at_set_k _ _ HA.out.1,at_set_p _ _ HA.out.1,ndTo_next _ HA.out.2.1] at h1
           exact h1
          clear ck cp dk dp fk fp
          go_wp2
          go_roundw
          case rel=>exact⟨j+1,HA.out.2.2,by go_num,hN⟩
          case measure=>simp[intOf];have:=HA.out.2.2;omega
         ·obtain rfl:j=m2:=by omega
          have i1: ¬(j:Int)< (j:Int):=by omega
          have hI9:=HI2.out.bel (by rw[←HB.out];exact hJ.out.1)
          have hld:=at_ld hJ.out.2
          have hbs:=at_row (at':Int) (ndTo (nd0 lvl L2 F1) own2 j) wB
          have hml2:=ents_len hE2.out
          have hnd:ndTo (nd0 lvl L2 F1) own2 j=ndOf lvl at' (k==0) own:=by rw[hml2];exact nd_final HLP.out.1 HLP.out.2 HL2.out HF1.out.1 HF1.out.2
          obtain⟨va,vc,w9,hap,hrow9,ho9,hob9⟩:=at_push hI9.row (Nat.le_trans (HI2.out.only.size) (by have:=hJ.out.1.size;exact this)) (at',ndTo (nd0 lvl L2 F1) own2 j) (by rw[rounds_len];have h1:=hK.out;have h2:=HM.out;have:k≤k*per:=Nat.le_mul_of_pos_right _ (by omega);rcases h1.2 with h | h<;>omega)
          rw[rounds_len] at hap hrow9 hob9
          have hrk:R.rounds lvl per l (k+1)=(Q,(R.rounds lvl per l k).2++[(at',ndTo (nd0 lvl L2 F1) own2 j)]):=by
           have h1:=HQ.out
           rw[hnd,h1.2.1,h1.1,h1.2.2.1];rfl
          have HI10:=hid (hI9.push ho9 hrow9)
          have HR1:Hid (R.roomy lvl per l (k+1)):=hid (fun i hi=>by
           rcases(by omega:i<k∨i=k) with h | h
           ·exact hR.out i h
           ·rw[h,←HQ.out.1];exact HAT.out.1)
          have HRK:=hid hrk
          clear hI9 hrow9 ho9 hob9 hml2 hlt hj hnd hrk
          go_upto_region 23 with fail
          by_cases qe:tt=m
          ·have b1:((tt:Int)==(m:Int))=true:=by simp[qe]
           have hnr:nRounds per l=k+1:=nRounds_last (by have:=HM.out;omega) (by have h1:=hK.out;have h2:=HM.out.1;rw[←h1.1,←h2];exact h1.2) (by have h1:=hK.out;have h2:=HM.out.1;have h3:=HTT.out;rw[←h1.1,←h2];omega)
           obtain⟨nr,hnrk⟩: ∃nr,nr=k+1:=⟨_,rfl⟩
           obtain⟨Row,hRow⟩: ∃x,x=(R.rounds lvl per l (k+1)).2:=⟨_,rfl⟩
           have hlen:Row.length=nr:=by rw[hRow,rounds_len,hnrk]
           have hQ1:Q=(R.rounds lvl per l (k+1)).1:=by rw[HRK.out]
           have hR2:(R.rounds lvl per l k).2++[(at',ndTo (nd0 lvl L2 F1) own2 j)]=Row:=by rw[hRow,HRK.out]
           have hin: ∀x∈Row,x.1+192≤n∧NdOK x.2:=by
            rw[hRow]
            have h2:=rounds_in HOK.out (HM.out.2.1) HM.out.2.2.2.2.2.2 (k+1) HR1.out
            rw[←H.out.ln] at h2
            exact h2
           have HI11:Hid (LvI w g b n lv l ev Nb (.slice va nr vc) Q (linkTo Row 0) w9):=by
            rw[linkTo_zero,←hR2,hnrk];exact HI10
           rw[←hnrk]
           have HROW:=hid (⟨hnr.trans hnrk.symm,hRow,hlen,hQ1,hin,hnrk⟩:nRounds per l=nr∧_∧_∧_∧_∧_)
           have HR2:Hid (R.roomy lvl per l (nRounds per l)):=hid (by rw[hnr];exact HR1.out)
           clear hnr hnrk hRow hlen hQ1 hR2 hin HI10 HRK HR1 hap hld hbs
           obtain⟨rb,hva⟩: ∃rb,va=some ⟨rb,0,none⟩:=by
            have h1:=HI11.out.row
            rcases h1.2 with⟨h2,h3⟩ | ⟨rb,cap,cur,h2,_⟩
            ·rw[linkTo_len,HROW.out.2.2.1,HROW.out.2.2.2.2.2] at h3;omega
            ·injection h2 with h2 _ _;exact⟨rb,h2⟩
           subst hva
           have HJ0:Hid (LyJ w g b n lv (.slice (some ⟨rb,0,none⟩) nr vc) (Q.layRow Row 0) (linkTo Row 0) w9):=hid ⟨HI11.out.ar,HI11.out.row,HI11.out.only⟩
           go_upto_region 24 with fail
           clear HI11 qe b1
           go_wp2
           go_loopw [16] (fun iv wr=> ∃i:Nat,i≤nr∧iv= .int .i64 (i:Int)∧Hid (LyJ w g b n lv (.slice (some ⟨rb,0,none⟩) nr vc) (Q.layRow Row i) (linkTo Row i) wr)) (fun iv _=>(nr- (intOf iv).toNat))
           case atStart=>exact⟨0,Nat.zero_le _,rfl,HJ0⟩
           case round=>
            obtain⟨i,hi,rfl,hJ⟩:=hrel
            clear HJ0
            obtain⟨wC,rfl⟩: ∃y,y=wr:=⟨_,rfl⟩
            by_cases hlt:i<nr
            ·have i1:(i:Int)< (nr:Int):=by omega
             have i0:(0:Int)≤(i:Int):=by omega
             obtain⟨q,hq⟩: ∃q,q=i+1:=⟨_,rfl⟩
             have hnr1:nr≤100000:=by
              have h1:=HROW.out.2.2.2.2.2
              have h2:=hK.out
              have h3:=HM.out
              have:k≤k*per:=Nat.le_mul_of_pos_right _ (by omega)
              rcases h2.2 with h | h<;>omega
             have wq:IntKind.i64.wrap ((i:Int)+1)=(q:Int):=by rw[IntWalk.i64_in _ (by constructor<;>omega)];omega
             have hrl:Row.length=nr:=HROW.out.2.2.1
             obtain⟨x,hx⟩: ∃x,Row[i]?=some x:=⟨_,List.getElem?_eq_getElem (by omega)⟩
             have HQI:=hid (⟨hq,hrl,hx,hlt⟩:_∧_∧_∧_)
             clear hlt hnr1 hi hq hrl hx
             go_upto_if 114 with fail
             go_cut [] from 111 to 125 (fun wd=>Hid (LyJ w g b n lv (.slice (some ⟨rb,0,none⟩) nr vc) (Q.layRow Row i) (linkTo Row q) wd))
             case first=>
              obtain⟨hq,hrl,hx,hlt⟩:=HQI.out
              by_cases qn:q<nr
              ·have j1:(q:Int)< (nr:Int):=by omega
               have j0:(0:Int)≤(q:Int):=by omega
               obtain⟨y,hy⟩: ∃y,Row[q]?=some y:=⟨_,List.getElem?_eq_getElem (by omega)⟩
               have hyl:(linkTo Row i)[q]?=some y:=by
                rw[linkTo_at hy,if_neg (by omega)]
               have hxl:(linkTo Row i)[i]?=some x:=by rw[linkTo_at hx,if_neg (by omega)]
               have hrow:=hJ.out.row
               have hrow2:wC.ownsRow w.heap.size 79 22 (.slice (some ⟨rb,0,none⟩) nr vc) nr (atsV (linkTo Row i)):=by
                have:=hrow;unfold rowA at this;rw[linkTo_len,hrl] at this;exact this
               have cy:wC.cell? ⟨rb,q*22,none⟩=some (.int .u64 (y.1:Int)):=(hrow2.cellAt (q*22) (by omega)).trans (atsV_at hyl 0 (by omega))
               have cx: ∃z,wC.cell? ⟨rb,i*22+3,none⟩=some z:=⟨_,(hrow2.cellAt (i*22+3) (by omega)).trans (atsV_at hxl 3 (by omega))⟩
               obtain⟨z,cx⟩:=cx
               have fx:=hrow2.frozenAt (i*22+3)
               have HN:Hid (LyJ w g b n lv (.slice (some ⟨rb,0,none⟩) nr vc) (Q.layRow Row i) (linkTo Row q) (wC.setCell ⟨rb,i*22+3,none⟩ (.int .u64 (y.1:Int)))):=by
                refine hid (hJ.out.set (by rw[linkTo_len,hrl]) (by rw[linkTo_len,linkTo_len]) _ _ ?_)
                rw[atsV_set _ hxl]
                congr 1
                have e:=linkTo_next hx (by omega)
                rw[←hq,List.getD_eq_getElem?_getD,hy] at e
                exact e
               have HQQ:=hid (⟨hq,qn⟩:_∧_)
               clear hy hyl hxl hrow hrow2 hx hrl hq hlt
               go_wp2
               go_meet
               exact HN
              ·have j1: ¬(q:Int)< (nr:Int):=by omega
               have HN:Hid (LyJ w g b n lv (.slice (some ⟨rb,0,none⟩) nr vc) (Q.layRow Row i) (linkTo Row q) wC):=by
                rw[hq,←linkTo_last (by omega)];exact hJ
               clear hx hrl hq hlt
               go_wp2
               go_meet
               exact HN
             case rest=>
              obtain⟨hq,hrl,hx,hlt⟩:=HQI.out
              obtain⟨xx,hxx⟩: ∃xx,(linkTo Row q)[i]?=some xx:=⟨_,linkTo_at hx⟩
              have hin:=linkTo_in H.out.big HROW.out.2.2.2.2.1 q xx (List.mem_of_getElem? hxx)
              have hlk:(linked Row)[i]?=some xx:=by rw[linked_at hx,←hq];exact hxx
              have hrow:=hcut.out.row
              have hrow2:wc.ownsRow w.heap.size 79 22 (.slice (some ⟨rb,0,none⟩) nr vc) nr (atsV (linkTo Row q)):=by
               have:=hrow;unfold rowA at this;rw[linkTo_len,hrl] at this;exact this
              have cx:wc.cell? ⟨rb,i*22,none⟩=some (.int .u64 (xx.1:Int)):=(hrow2.cellAt (i*22) (by omega)).trans (atsV_at hxx 0 (by omega))
              have hld:=at_node_ld hrow hxx
              have hld2:=at_node_ld (hcut.out.bel (W':=wc.drew) ⟨rfl,rfl,rfl,Nat.le_refl _,fun _ _=>rfl⟩).row hxx
              have LY:=hid (fun W hW=>ALay_z g b n (Q.layRow Row i) lv xx.1 xx.2 hin.2 hin.1 W hW)
              have HLK:=hid (⟨hlk,hq,hlt⟩:_∧_∧_)
              clear hq hrl hx hlt hxx hin hlk hrow hrow2
              go_upto_region 29 with fail
              refine wp_region_still_tail 11 (by kernel_rfl) (by kernel_rfl) ?_
              simp only[List.take_succ_cons,List.take_zero,List.drop_succ_cons,List.drop_zero]
              repeat still_step
              refine wpStill_nil ?_
              change wpList _ _ _ _ _ wc.drew
              have hbd:Below wc.heap.size wc wc.drew:=⟨rfl,rfl,rfl,Nat.le_refl _,fun _ _=>rfl⟩
              have HJ9:Hid (LyJ w g b n lv (.slice (some ⟨rb,0,none⟩) nr vc) (Q.layRow Row i) (linkTo Row q) wc.drew):=hid (hcut.out.bel hbd)
              clear cx hld hld2 hbd
              generalize wc.drew=w10 at HJ9 ⊢
              have LY1:=hid (LY.out _ HJ9.out.ar)
              go_wp2_with fail
              refine LY1.out.mono ?_
              rintro e w11 ⟨rfl,hA11,ho11⟩
              have HN:Hid (LyJ w g b n lv (.slice (some ⟨rb,0,none⟩) nr vc) (Q.layRow Row q) (linkTo Row q) w11):=by
               rw[show Q.layRow Row q=(Q.layRow Row i).lay xx.1 xx.2 by rw[HLK.out.2.1,layRow_next HLK.out.1]]
               exact hid (HJ9.out.arena hA11 ho11)
              clear hA11 ho11
              go_wp2
              go_roundw
              case rel=>exact⟨q,(by have:=HLK.out.2;omega),rfl,HN⟩
              case measure=>simp[intOf];have:=HLK.out.2;omega
            ·obtain rfl:i=nr:=by omega
             have i1: ¬(i:Int)< (i:Int):=by omega
             have hV:LvsA wC N lv rows:=HL.out.2.1.only hJ.out.only (fun y hy=>by
              rcases List.mem_cons.1 hy with rfl | hy
              ·exact Or.inr ⟨_,_,H.out.blk,by decide,by decide⟩
              ·rw[List.mem_singleton.1 hy];exact Or.inr ⟨_,_,H.out.by',by decide,by decide⟩)
             have hrow:=own_less hJ.out.row HL.out.1
             obtain⟨va7,vc7,w12,hap,⟨y7,c7⟩,f7,hA12,hV12,ho12⟩:=lvs_push hJ.out.ar hV hrow (Nat.le_trans HL.out.1 hJ.out.only.size) (by have:=HL.out.2.2;omega) rfl
             have d7:wC.cell? ⟨g,7,none⟩=some lv:=hJ.out.ar.blk.cell 7
             have HF:Hid (LvPs w N g b n R lv rows lvl per l (.returned (.bool true)) (w12.setCell ⟨g,7,none⟩ (.slice va7 (rows.length+1) vc7))):=by
              refine hid ⟨(hJ.out.only.mono (fun y hy=>by simp at hy ⊢;rcases hy with h | h;exact Or.inl h;exact Or.inr (Or.inl h))).trans ho12 (fun y hy=>Or.inl (by simp at hy ⊢;rcases hy with h | h;exact Or.inl h;exact Or.inr (Or.inr h))),Or.inr ⟨rfl,HR2.out,(.slice va7 (rows.length+1) vc7),?_,?_⟩⟩
              ·obtain⟨q1,q2,q3,q4,q5,q6⟩:=HROW.out
               unfold AR.level
               rw[q1,q6,←q2,←q4,←q6]
               exact hA12
              ·obtain⟨q1,q2,q3,q4,q5,q6⟩:=HROW.out
               unfold AR.levelRow linked
               rw[q1,q6,←q2,q3]
               exact hV12
             clear hlt hi hV hrow hA12 hV12 ho12
             go_wp2
             go_ret
             exact HF.out
          ·have b1:((tt:Int)==(m:Int))=false:=by simp;omega
           have hT:=HTT.out
           have hlt:s<m:=by omega
           have ws:IntKind.i64.wrap ((fr:Int)+(per:Int))=(s:Int):=by have h9:=HM.out;rw[IntWalk.i64_in _ (by constructor<;>omega)];omega
           have HS:=hid (⟨hlt,(by have h1:=hK.out.1;rw[Nat.succ_mul];omega:s=(k+1)*per),(by have:=HM.out;omega:fr<s)⟩:_∧_∧_)
           have HI11:Hid (LvI w g b n lv l ev Nb (.slice va (k+1) vc) (R.rounds lvl per l (k+1)).1 (R.rounds lvl per l (k+1)).2 w9):=by
            rw[HRK.out];exact HI10
           clear HI10 HRK hap hld hbs qe hT hlt
           go_wp2
           go_roundw
           case rel=>exact⟨k+1,s,va,vc,hid ⟨HS.out.2.1,Or.inr HS.out.1⟩,rfl,rfl,HI11,HR1⟩
           case measure=>simp[intOf];have:=HS.out;omega
end Go.Proofs.YtjmaicckkkdjpaaGreat
