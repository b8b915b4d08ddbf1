import Derived.Test.YtjmaicckkkdjpaaGreatM08
/- The blocks of an arena, as the program has them: where they lie, what turns them. -/
set_option linter.unusedVariables false
set_option linter.unusedSimpArgs false
namespace Go.Proofs.YtjmaicckkkdjpaaGreat
open Go.RowKit
structure SA where
 hd:List (Int×Int)
 fr:Nat→List Int
 is:List (Int×Int)
structure SB where
 s:Nat
 h:Nat
 m:Nat
 f0:Nat
 f1:Nat
 f2:Nat
 f3:Nat
def SB.f (B:SB) (c:Nat):Nat:=if c=0 then B.f0 else if c=1 then B.f1 else if c=2 then B.f2 else B.f3
def isSet:List (Int×Int)→Int→Int→List (Int×Int)
 | [],a,v=>[(a,v)]
 | x::l,a,v=>if x.1=a then(a,v)::l else x::isSet l a v
def updN {α:Type} (f:Nat→α) (c:Nat) (x:α):Nat→α:=fun d=>if d=c then x else f d
def headC (hd:List (Int×Int)):List Value:=hd.flatMap fun x=>[.int .i64 x.1,.int .u64 x.2]
def slabC (B:SB) (size:Int) (n:Nat):Array Value:= #[.int .i64 size,.slice (some ⟨B.h,0,none⟩) n n,.pointer (some ⟨B.f0,0,none⟩),.pointer (some ⟨B.f1,0,none⟩),.pointer (some ⟨B.f2,0,none⟩),.pointer (some ⟨B.f3,0,none⟩),.map (some B.m)]
def role (B:SB) (V:Nat→Value) (i:Nat):Option Nat:=
 if i=0 then some B.s else if i=1 then some B.h else if i=2 then some B.m else if i<7 then some (B.f (i-3)) else if i<11 then(V (i-7)).ownBlock else none
def foot (B:SB) (V:Nat→Value):List Nat:=(List.range 11).filterMap (role B V)
theorem foot_mem {B:SB} {V:Nat→Value} {k:Nat}:k∈foot B V↔ ∃i,role B V i=some k:=by
 unfold foot
 rw[List.mem_filterMap]
 constructor
 ·rintro⟨i,_,h⟩;exact⟨i,h⟩
 ·rintro⟨i,h⟩
  refine⟨i,?_,h⟩
  rw[List.mem_range]
  unfold role at h
  rcases Nat.lt_or_ge i 11 with h1 | h1
  ·exact h1
  ·rw[if_neg (by omega),if_neg (by omega),if_neg (by omega),if_neg (by omega),if_neg (by omega)] at h;cases h
theorem role_h (B:SB) (V:Nat→Value):role B V 1=some B.h:=rfl
theorem role_m (B:SB) (V:Nat→Value):role B V 2=some B.m:=rfl
theorem role_f (B:SB) (V:Nat→Value) {c:Nat} (hc:c<4):role B V (3+c)=some (B.f c):=by
 unfold role
 rw[if_neg (by omega),if_neg (by omega),if_neg (by omega),if_pos (by omega),Nat.add_sub_cancel_left]
theorem role_v (B:SB) (V:Nat→Value) {c:Nat} (hc:c<4):role B V (7+c)=(V c).ownBlock:=by
 unfold role
 rw[if_neg (by omega),if_neg (by omega),if_neg (by omega),if_neg (by omega),if_pos (by omega),Nat.add_sub_cancel_left]
def viewE (e:MapEntry):Value×Value:=(e.key,e.val)
def isV (x:Int×Int):Value×Value:=(.int .u64 x.1,.int .i64 x.2)
def BornOK (l:List MapEntry) (clock:Nat):Prop:=(l.map (·.born)).Nodup∧ ∀b∈l.map (·.born),b<clock
theorem born_push {l:List MapEntry} {clock:Nat} (h:BornOK l clock) (e:MapEntry) (he:e.born=clock):BornOK (l++[e]) (clock+1):=by
 unfold BornOK at h ⊢
 rw[List.map_append]
 refine⟨?_,fun b hb=> ?_⟩
 ·rw[List.nodup_append]
  refine⟨h.1,by simp,fun x hx y hy=> ?_⟩
  simp at hy
  have:=h.2 x hx
  omega
 ·rcases List.mem_append.1 hb with h1 | h1
  ·have:=h.2 b h1;omega
  ·simp at h1;omega
structure SlabIs (w:World) (N:Nat) (B:SB) (V:Nat→Value) (size:Int) (A:SA):Prop where
 st:Blk w B.s 202 (slabC B size A.hd.length)
 hdr:Blk w B.h 208 (headC A.hd).toArray
 fre: ∀c,c<4→FreeRow w (B.f c) (V c) (A.fr c)
 mp: ∃es clock,w.heap[B.m]?=some (.map es clock)∧es.toList.map viewE=A.is.map isV∧BornOK es.toList clock
 apart: ∀i j k,role B V i=some k→role B V j=some k→i=j
 lo: ∀i k,role B V i=some k→N≤k
theorem SlabIs.lt {w:World} {N:Nat} {B:SB} {V:Nat→Value} {size:Int} {A:SA} (h:SlabIs w N B V size A) {i k:Nat} (hk:role B V i=some k):k<w.heap.size:=by
 unfold role at hk
 split at hk
 ·cases hk;exact h.st.lt
 ·split at hk
  ·cases hk;exact h.hdr.lt
  ·split at hk
   ·cases hk
    obtain⟨es,c,h1,_⟩:=h.mp
    exact(Array.getElem?_eq_some_iff.1 h1).1
   ·split at hk
    ·cases hk
     obtain⟨t,h1⟩:=(h.fre (i-3) (by omega)).blk
     exact h1.lt
    ·split at hk
     ·obtain⟨_,h1⟩:=(h.fre (i-7) (by omega)).row
      rcases h1 with⟨h1,_⟩ | ⟨g,cap,cur,h1,_,h2,_⟩
      ·rw[h1] at hk;cases hk
      ·rw[h1] at hk
       cases hk
       exact(Array.getElem?_eq_some_iff.1 h2).1
     ·cases hk
theorem SlabIs.only {fs:List Nat} {w w':World} {N:Nat} {B:SB} {V:Nat→Value} {size:Int} {A:SA} (h:SlabIs w N B V size A) (ho:Only fs w w') (hf: ∀i k,role B V i=some k→k∉fs):SlabIs w' N B V size A:=by
 refine⟨ho.blk h.st (hf 0 _ rfl),ho.blk h.hdr (hf 1 _ rfl),fun c hc=> ?_,?_,h.apart,h.lo⟩
 ·exact(h.fre c hc).only ho (hf _ _ (role_f B V hc)) (fun g hg=>hf _ _ ((role_v B V hc).trans hg))
 ·obtain⟨es,c,h1,h2⟩:=h.mp
  exact⟨es,c,(ho.block B.m (h.lt (role_m B V)) (hf 2 _ rfl)).trans h1,h2⟩
theorem SlabIs.bel {w w':World} {N:Nat} {B:SB} {V:Nat→Value} {size:Int} {A:SA} (h:SlabIs w N B V size A) (hb:Below w.heap.size w w'):SlabIs w' N B V size A:=
 h.only (Only.of_below hb []) (by simp)
theorem SlabIs.free {w w':World} {N:Nat} {B:SB} {V:Nat→Value} {size:Int} {A:SA} (h:SlabIs w N B V size A) (hN:N≤w.heap.size) {c:Nat} (hc:c<4) {v':Value} {xs':List Int}
  (h1:FreeRow w' (B.f c) v' xs') (ho:Only (B.f c::(V c).ownBlock.toList) w w') (hv:v'.ownBlock=(V c).ownBlock∨ ∃g,v'.ownBlock=some g∧w.heap.size≤g):
  SlabIs w' N B (updN V c v') size { A with fr:=updN A.fr c xs' }∧Only (foot B V) w w'∧(∀k∈foot B (updN V c v'),k∈foot B V∨w.heap.size≤k):=by
 have hr: ∀i,role B (updN V c v') i=if i=7+c then v'.ownBlock else role B V i:=by
  intro i
  unfold role
  by_cases e0:i=0
  ·subst e0;rw[if_pos rfl,if_neg (by omega),if_pos rfl]
  by_cases e1:i=1
  ·subst e1;rw[if_neg e0,if_pos rfl,if_neg (by omega),if_neg e0,if_pos rfl]
  by_cases e2:i=2
  ·subst e2;rw[if_neg e0,if_neg e1,if_pos rfl,if_neg (by omega),if_neg e0,if_neg e1,if_pos rfl]
  rw[if_neg e0,if_neg e1,if_neg e2,if_neg e0,if_neg e1,if_neg e2]
  by_cases e3:i<7
  ·rw[if_pos e3,if_neg (by omega),if_pos e3]
  rw[if_neg e3,if_neg e3]
  by_cases e4:i<11
  ·rw[if_pos e4,if_pos e4]
   unfold updN
   by_cases e5:i=7+c
   ·rw[if_pos e5,if_pos (by omega)]
   ·rw[if_neg e5,if_neg (by omega)]
  ·rw[if_neg e4,if_neg e4,if_neg (by omega)]
 have hin: ∀k,k∈B.f c::(V c).ownBlock.toList→k∈foot B V:=by
  intro k hk
  rcases List.mem_cons.1 hk with e | hk
  ·rw[e];exact foot_mem.2 ⟨_,role_f B V hc⟩
  ·exact foot_mem.2 ⟨_,(role_v B V hc).trans (by simpa using hk)⟩
 have hout: ∀i k,role B V i=some k→i≠3+c→i≠7+c→k∉B.f c::(V c).ownBlock.toList:=by
  intro i k hk h3 h7 hm
  rcases List.mem_cons.1 hm with e | hm
  ·exact h3 (h.apart i (3+c) k hk (by rw[role_f B V hc,e]))
  ·exact h7 (h.apart i (7+c) k hk ((role_v B V hc).trans (by simpa using hm)))
 refine⟨⟨ho.blk h.st (hout 0 _ rfl (by omega) (by omega)),ho.blk h.hdr (hout 1 _ rfl (by omega) (by omega)),fun d hd=> ?_,?_,?_,?_⟩,ho.mono hin,?_⟩
 ·unfold updN
  by_cases e:d=c
  ·subst e
   simp only[if_true]
   exact h1
  ·simp only[if_neg e]
   exact(h.fre d hd).only ho (hout _ _ (role_f B V hd) (by omega) (by omega)) (fun g hg=>hout _ _ ((role_v B V hd).trans hg) (by omega) (by omega))
 ·obtain⟨es,cl,h2,h3⟩:=h.mp
  exact⟨es,cl,(ho.block B.m (h.lt (role_m B V)) (hout 2 _ rfl (by omega) (by omega))).trans h2,h3⟩
 ·intro i j k hi hj
  rw[hr] at hi hj
  have hlt: ∀i k,role B V i=some k→k<w.heap.size:=fun i k hk=>h.lt hk
  rcases hv with hv | ⟨g,hv,hg⟩
  ·rw[hv,←role_v B V hc] at hi hj
   have hi':role B V i=some k:=by
    split at hi
    ·rename_i e;rw[e];exact hi
    ·exact hi
   have hj':role B V j=some k:=by
    split at hj
    ·rename_i e;rw[e];exact hj
    ·exact hj
   exact h.apart i j k hi' hj'
  ·rw[hv] at hi hj
   split at hi
   ·rename_i e1
    split at hj
    ·rename_i e2;omega
    ·have:=hlt _ _ hj
     injection hi with hi
     omega
   ·split at hj
    ·have:=hlt _ _ hi
     injection hj with hj
     omega
    ·exact h.apart i j k hi hj
 ·intro i k hi
  rw[hr] at hi
  split at hi
  ·rcases hv with hv | ⟨g,hv,hg⟩
   ·rw[hv,←role_v B V hc] at hi;exact h.lo _ _ hi
   ·rw[hv] at hi;injection hi with hi;omega
  ·exact h.lo _ _ hi
 ·intro k hk
  obtain⟨i,hi⟩:=foot_mem.1 hk
  rw[hr] at hi
  split at hi
  ·rcases hv with hv | ⟨g,hv,hg⟩
   ·rw[hv,←role_v B V hc] at hi;exact Or.inl (foot_mem.2 ⟨_,hi⟩)
   ·rw[hv] at hi;injection hi with hi;exact Or.inr (by omega)
  ·exact Or.inl (foot_mem.2 ⟨_,hi⟩)
theorem is_split {l:List (Int×Int)} {a:Int} (h:a∈l.map (·.1)): ∃pre v post,l=pre++(a,v)::post∧a∉pre.map (·.1)∧isGet l a=v∧ ∀u,isSet l a u=pre++(a,u)::post:=by
 induction l with
 | nil=>cases h
 | cons x l ih=>
  by_cases e:x.1=a
  ·refine⟨[],x.2,l,?_,by simp,?_,fun u=> ?_⟩
   ·rw[←e];rfl
   ·unfold isGet;rw[if_pos e]
   ·unfold isSet;rw[if_pos e];rfl
  ·obtain⟨pre,v,post,h1,h2,h3,h4⟩:=ih (by simpa[Ne.symm e] using h)
   refine⟨x::pre,v,post,by rw[h1];rfl,?_,?_,fun u=> ?_⟩
   ·intro hm
    rcases List.mem_cons.1 hm with h | h
    ·exact e h.symm
    ·exact h2 h
   ·unfold isGet;rw[if_neg e];exact h3
   ·unfold isSet;rw[if_neg e,h4 u];rfl
theorem isSet_not {l:List (Int×Int)} {a:Int} (h:a∉l.map (·.1)) (v:Int):isSet l a v=l++[(a,v)]:=by
 induction l with
 | nil=>rfl
 | cons x l ih=>
  simp at h
  unfold isSet
  rw[if_neg (fun e=>h.1 e.symm),ih (by simpa using h.2)]
  rfl
theorem findNow_not {es:List MapEntry} {l:List (Int×Int)} (hv:es.map viewE=l.map isV) {a:Int} (h:a∉l.map (·.1)):Instr.findNow (.int .u64) (.int .u64 a) es 0=some none:=by
 refine findU_none fun e he=> ?_
 have hm:viewE e∈l.map isV:=hv▸List.mem_map_of_mem he
 obtain⟨x,hx,hxe⟩:=List.mem_map.1 hm
 have hk:e.key= .int .u64 x.1:=by have:=congrArg Prod.fst hxe;exact this.symm
 exact⟨x.1,hk,fun e=>h (by rw[←e];exact List.mem_map_of_mem hx)⟩
theorem findNow_at {es:List MapEntry} {l:List (Int×Int)} (hv:es.map viewE=l.map isV) {a v:Int} {pre post:List (Int×Int)} (hl:l=pre++(a,v)::post) (h:a∉pre.map (·.1)):
  ∃(es1 es2:List MapEntry) (e:MapEntry),es=es1++e::es2∧es1.map viewE=pre.map isV∧es2.map viewE=post.map isV∧e.key= .int .u64 a∧e.val= .int .i64 v∧Instr.findNow (.int .u64) (.int .u64 a) es 0=some (some (es1.length,.int .i64 v)):=by
 rw[hl,List.map_append,List.map_cons] at hv
 obtain⟨es1,es3,h1,h2,h3⟩:=List.map_eq_append_iff.1 hv
 obtain⟨e,es2,h4,h5,h6⟩:=List.map_eq_cons_iff.1 h3
 subst h1 h4
 have hk:e.key= .int .u64 a:=congrArg Prod.fst h5
 have hvl:e.val= .int .i64 v:=congrArg Prod.snd h5
 refine⟨es1,es2,e,rfl,h2,h6,hk,hvl,?_⟩
 have:=findU_at (k:=a) (e:=e) (post:=es2) hk (pre:=es1) (i:=0) (fun d hd=>by
  have hm:viewE d∈pre.map isV:=h2▸List.mem_map_of_mem hd
  obtain⟨x,hx,hxe⟩:=List.mem_map.1 hm
  have hk:d.key= .int .u64 x.1:=by have:=congrArg Prod.fst hxe;exact this.symm
  exact⟨x.1,hk,fun e=>h (by rw[←e];exact List.mem_map_of_mem hx)⟩)
 rw[this,hvl]
 simp
theorem modify_mid {α:Type} (f:α→α): ∀(l1:List α) (e:α) (l2:List α),(l1++e::l2).modify l1.length f=l1++f e::l2
 | [],e,l2=>by simp[List.modify_cons]
 | x::l1,e,l2=>by
  have:=modify_mid f l1 e l2
  simp only[List.cons_append,List.length_cons,List.modify_succ_cons]
  rw[this]
theorem SlabIs.put {w:World} {N:Nat} {B:SB} {V:Nat→Value} {size:Int} {A:SA} (h:SlabIs w N B V size A) (a v:Int):
  ∃w',(Instr.mapUpdate 198 (.map (some B.m)) (.int .u64 a) (.int .i64 v)).run Tryz.prog w= .ok () w'∧SlabIs w' N B V size { A with is:=isSet A.is a v }∧Only [B.m] w w':=by
 obtain⟨es,clock,h1,h2,h3b⟩:=h.mp
 have hO: ∀o,Only [B.m] w (w.putObj B.m o):=fun o=>(Only.refl _ _).putObj (Or.inl (by simp)) o
 have hS: ∀es' c,es'.toList.map viewE=(isSet A.is a v).map isV→BornOK es'.toList c→SlabIs (w.putObj B.m (.map es' c)) N B V size { A with is:=isSet A.is a v }:=by
  intro es' c he hb
  have hne: ∀i k,role B V i=some k→i≠2→k∉ [B.m]:=by
   intro i k hk hi hm
   exact hi (h.apart i 2 k hk (by rw[role_m,List.mem_singleton.1 hm]))
  refine⟨(hO _).blk h.st (hne 0 _ rfl (by omega)),(hO _).blk h.hdr (hne 1 _ rfl (by omega)),fun c hc=>(h.fre c hc).only (hO _) (hne _ _ (role_f B V hc) (by omega)) (fun g hg=>hne _ _ ((role_v B V hc).trans hg) (by omega)),⟨es',c,putObj_at h1,he,hb⟩,h.apart,h.lo⟩
 by_cases hm:a∈A.is.map (·.1)
 ·obtain⟨pre,u,post,p1,p2,p3,p4⟩:=is_split hm
  obtain⟨es1,es2,e,q1,q2,q3,q4,q5,q6⟩:=findNow_at h2 p1 p2
  have hat:es[es1.length]?=some e:=by rw[←Array.getElem?_toList,q1];simp
  refine⟨_,run_updU_old w _ _ _ Tryz.underlying198 Tryz.underlying62 B.m es clock h1 a (.int .i64 v) es1.length (.int .i64 u) q6 (by rw[hat,Option.map_some,q4]),hS _ _ ?_ ?_,hO _⟩
  ·rw[Array.toList_modify,q1,p4 v]
   rw[modify_mid]
   simp[q2,q3,viewE,isV]
  ·rw[Array.toList_modify,q1,modify_mid]
   rw[q1] at h3b
   unfold BornOK at h3b ⊢
   simpa using h3b
 ·refine⟨_,run_updU_new w _ _ _ Tryz.underlying198 Tryz.underlying62 B.m es clock h1 a (.int .i64 v) (findNow_not h2 hm),hS _ _ ?_ ?_,hO _⟩
  ·rw[Array.toList_push,List.map_append,h2,isSet_not hm v,List.map_append]
   rfl
  ·rw[Array.toList_push]
   exact born_push h3b _ rfl
end Go.Proofs.YtjmaicckkkdjpaaGreat
