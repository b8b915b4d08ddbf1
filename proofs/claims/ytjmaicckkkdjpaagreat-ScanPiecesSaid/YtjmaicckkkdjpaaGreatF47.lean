import Derived.Test.YtjmaicckkkdjpaaGreatF07
import Derived.Test.YtjmaicckkkdjpaaGreatF28
set_option maxRecDepth 100000
set_option maxHeartbeats 2000000
set_option linter.unusedVariables false
set_option linter.unusedSimpArgs false
/- The blocks of an arena, as the program has them: where they lie, what turns them. -/
namespace Go.Proofs.YtjmaicckkkdjpaaGreat
open Go.RowKit
structure SA where
 hd:List (Int×Int)
 fr:Nat→List Int
 is:List (Int×Int)
structure SB where
 s:Nat
 h:Nat
 m:Nat
 f0:Nat
 f1:Nat
 f2:Nat
 f3:Nat
def SB.f (B:SB) (c:Nat):Nat:=if c=0 then B.f0 else if c=1 then B.f1 else if c=2 then B.f2 else B.f3
def isSet:List (Int×Int)→Int→Int→List (Int×Int)
 | [],a,v=>[(a,v)]
 | x::l,a,v=>if x.1=a then(a,v)::l else x::isSet l a v
def updN {α:Type} (f:Nat→α) (c:Nat) (x:α):Nat→α:=fun d=>if d=c then x else f d
def headC (hd:List (Int×Int)):List Value:=hd.flatMap fun x=>[.int .i64 x.1,.int .u64 x.2]
def slabC (B:SB) (size:Int) (n:Nat):Array Value:= #[.int .i64 size,.slice (some ⟨B.h,0,none⟩) n n,.pointer (some ⟨B.f0,0,none⟩),.pointer (some ⟨B.f1,0,none⟩),.pointer (some ⟨B.f2,0,none⟩),.pointer (some ⟨B.f3,0,none⟩),.map (some B.m)]
def role (B:SB) (V:Nat→Value) (i:Nat):Option Nat:=
 if i=0 then some B.s else if i=1 then some B.h else if i=2 then some B.m else if i<7 then some (B.f (i-3)) else if i<11 then(V (i-7)).ownBlock else none
def foot (B:SB) (V:Nat→Value):List Nat:=(List.range 11).filterMap (role B V)
theorem foot_mem {B:SB} {V:Nat→Value} {k:Nat}:k∈foot B V↔ ∃i,role B V i=some k:=by
 unfold foot
 rw[List.mem_filterMap]
 constructor
 ·rintro⟨i,_,h⟩;exact⟨i,h⟩
 ·rintro⟨i,h⟩
  refine⟨i,?_,h⟩
  rw[List.mem_range]
  unfold role at h
  rcases Nat.lt_or_ge i 11 with h1 | h1
  ·exact h1
  ·rw[if_neg (by omega),if_neg (by omega),if_neg (by omega),if_neg (by omega),if_neg (by omega)] at h;cases h
theorem role_h (B:SB) (V:Nat→Value):role B V 1=some B.h:=rfl
theorem role_m (B:SB) (V:Nat→Value):role B V 2=some B.m:=rfl
theorem role_f (B:SB) (V:Nat→Value) {c:Nat} (hc:c<4):role B V (3+c)=some (B.f c):=by
 unfold role
 rw[if_neg (by omega),if_neg (by omega),if_neg (by omega),if_pos (by omega),Nat.add_sub_cancel_left]
theorem role_v (B:SB) (V:Nat→Value) {c:Nat} (hc:c<4):role B V (7+c)=(V c).ownBlock:=by
 unfold role
 rw[if_neg (by omega),if_neg (by omega),if_neg (by omega),if_neg (by omega),if_pos (by omega),Nat.add_sub_cancel_left]
def viewE (e:MapEntry):Value×Value:=(e.key,e.val)
def isV (x:Int×Int):Value×Value:=(.int .u64 x.1,.int .i64 x.2)
def BornOK (l:List MapEntry) (clock:Nat):Prop:=(l.map (·.born)).Nodup∧ ∀b∈l.map (·.born),b<clock
theorem born_push {l:List MapEntry} {clock:Nat} (h:BornOK l clock) (e:MapEntry) (he:e.born=clock):BornOK (l++[e]) (clock+1):=by
 unfold BornOK at h ⊢
 rw[List.map_append]
 refine⟨?_,fun b hb=> ?_⟩
 ·rw[List.nodup_append]
  refine⟨h.1,by simp,fun x hx y hy=> ?_⟩
  simp at hy
  have:=h.2 x hx
  omega
 ·rcases List.mem_append.1 hb with h1 | h1
  ·have:=h.2 b h1;omega
  ·simp at h1;omega
structure SlabIs (w:World) (N:Nat) (B:SB) (V:Nat→Value) (size:Int) (A:SA):Prop where
 st:Blk w B.s 202 (slabC B size A.hd.length)
 hdr:Blk w B.h 208 (headC A.hd).toArray
 fre: ∀c,c<4→FreeRow w (B.f c) (V c) (A.fr c)
 mp: ∃es clock,w.heap[B.m]?=some (.map es clock)∧es.toList.map viewE=A.is.map isV∧BornOK es.toList clock
 apart: ∀i j k,role B V i=some k→role B V j=some k→i=j
 lo: ∀i k,role B V i=some k→N≤k
theorem SlabIs.lt {w:World} {N:Nat} {B:SB} {V:Nat→Value} {size:Int} {A:SA} (h:SlabIs w N B V size A) {i k:Nat} (hk:role B V i=some k):k<w.heap.size:=by
 unfold role at hk
 split at hk
 ·cases hk;exact h.st.lt
 ·split at hk
  ·cases hk;exact h.hdr.lt
  ·split at hk
   ·cases hk
    obtain⟨es,c,h1,_⟩:=h.mp
    exact(Array.getElem?_eq_some_iff.1 h1).1
   ·split at hk
    ·cases hk
     obtain⟨t,h1⟩:=(h.fre (i-3) (by omega)).blk
     exact h1.lt
    ·split at hk
     ·obtain⟨_,h1⟩:=(h.fre (i-7) (by omega)).row
      rcases h1 with⟨h1,_⟩ | ⟨g,cap,cur,h1,_,h2,_⟩
      ·rw[h1] at hk;cases hk
      ·rw[h1] at hk
       cases hk
       exact(Array.getElem?_eq_some_iff.1 h2).1
     ·cases hk
theorem SlabIs.only {fs:List Nat} {w w':World} {N:Nat} {B:SB} {V:Nat→Value} {size:Int} {A:SA} (h:SlabIs w N B V size A) (ho:Only fs w w') (hf: ∀i k,role B V i=some k→k∉fs):SlabIs w' N B V size A:=by
 refine⟨ho.blk h.st (hf 0 _ rfl),ho.blk h.hdr (hf 1 _ rfl),fun c hc=> ?_,?_,h.apart,h.lo⟩
 ·exact(h.fre c hc).only ho (hf _ _ (role_f B V hc)) (fun g hg=>hf _ _ ((role_v B V hc).trans hg))
 ·obtain⟨es,c,h1,h2⟩:=h.mp
  exact⟨es,c,(ho.block B.m (h.lt (role_m B V)) (hf 2 _ rfl)).trans h1,h2⟩
theorem SlabIs.bel {w w':World} {N:Nat} {B:SB} {V:Nat→Value} {size:Int} {A:SA} (h:SlabIs w N B V size A) (hb:Below w.heap.size w w'):SlabIs w' N B V size A:=
 h.only (Only.of_below hb []) (by simp)
theorem SlabIs.free {w w':World} {N:Nat} {B:SB} {V:Nat→Value} {size:Int} {A:SA} (h:SlabIs w N B V size A) (hN:N≤w.heap.size) {c:Nat} (hc:c<4) {v':Value} {xs':List Int}
  (h1:FreeRow w' (B.f c) v' xs') (ho:Only (B.f c::(V c).ownBlock.toList) w w') (hv:v'.ownBlock=(V c).ownBlock∨ ∃g,v'.ownBlock=some g∧w.heap.size≤g):
  SlabIs w' N B (updN V c v') size { A with fr:=updN A.fr c xs' }∧Only (foot B V) w w'∧(∀k∈foot B (updN V c v'),k∈foot B V∨w.heap.size≤k):=by
 have hr: ∀i,role B (updN V c v') i=if i=7+c then v'.ownBlock else role B V i:=by
  intro i
  unfold role
  by_cases e0:i=0
  ·subst e0;rw[if_pos rfl,if_neg (by omega),if_pos rfl]
  by_cases e1:i=1
  ·subst e1;rw[if_neg e0,if_pos rfl,if_neg (by omega),if_neg e0,if_pos rfl]
  by_cases e2:i=2
  ·subst e2;rw[if_neg e0,if_neg e1,if_pos rfl,if_neg (by omega),if_neg e0,if_neg e1,if_pos rfl]
  rw[if_neg e0,if_neg e1,if_neg e2,if_neg e0,if_neg e1,if_neg e2]
  by_cases e3:i<7
  ·rw[if_pos e3,if_neg (by omega),if_pos e3]
  rw[if_neg e3,if_neg e3]
  by_cases e4:i<11
  ·rw[if_pos e4,if_pos e4]
   unfold updN
   by_cases e5:i=7+c
   ·rw[if_pos e5,if_pos (by omega)]
   ·rw[if_neg e5,if_neg (by omega)]
  ·rw[if_neg e4,if_neg e4,if_neg (by omega)]
 have hin: ∀k,k∈B.f c::(V c).ownBlock.toList→k∈foot B V:=by
  intro k hk
  rcases List.mem_cons.1 hk with e | hk
  ·rw[e];exact foot_mem.2 ⟨_,role_f B V hc⟩
  ·exact foot_mem.2 ⟨_,(role_v B V hc).trans (by simpa using hk)⟩
 have hout: ∀i k,role B V i=some k→i≠3+c→i≠7+c→k∉B.f c::(V c).ownBlock.toList:=by
  intro i k hk h3 h7 hm
  rcases List.mem_cons.1 hm with e | hm
  ·exact h3 (h.apart i (3+c) k hk (by rw[role_f B V hc,e]))
  ·exact h7 (h.apart i (7+c) k hk ((role_v B V hc).trans (by simpa using hm)))
 refine⟨⟨ho.blk h.st (hout 0 _ rfl (by omega) (by omega)),ho.blk h.hdr (hout 1 _ rfl (by omega) (by omega)),fun d hd=> ?_,?_,?_,?_⟩,ho.mono hin,?_⟩
 ·unfold updN
  by_cases e:d=c
  ·subst e
   simp only[if_true]
   exact h1
  ·simp only[if_neg e]
   exact(h.fre d hd).only ho (hout _ _ (role_f B V hd) (by omega) (by omega)) (fun g hg=>hout _ _ ((role_v B V hd).trans hg) (by omega) (by omega))
 ·obtain⟨es,cl,h2,h3⟩:=h.mp
  exact⟨es,cl,(ho.block B.m (h.lt (role_m B V)) (hout 2 _ rfl (by omega) (by omega))).trans h2,h3⟩
 ·intro i j k hi hj
  rw[hr] at hi hj
  have hlt: ∀i k,role B V i=some k→k<w.heap.size:=fun i k hk=>h.lt hk
  rcases hv with hv | ⟨g,hv,hg⟩
  ·rw[hv,←role_v B V hc] at hi hj
   have hi':role B V i=some k:=by
    split at hi
    ·rename_i e;rw[e];exact hi
    ·exact hi
   have hj':role B V j=some k:=by
    split at hj
    ·rename_i e;rw[e];exact hj
    ·exact hj
   exact h.apart i j k hi' hj'
  ·rw[hv] at hi hj
   split at hi
   ·rename_i e1
    split at hj
    ·rename_i e2;omega
    ·have:=hlt _ _ hj
     injection hi with hi
     omega
   ·split at hj
    ·have:=hlt _ _ hi
     injection hj with hj
     omega
    ·exact h.apart i j k hi hj
 ·intro i k hi
  rw[hr] at hi
  split at hi
  ·rcases hv with hv | ⟨g,hv,hg⟩
   ·rw[hv,←role_v B V hc] at hi;exact h.lo _ _ hi
   ·rw[hv] at hi;injection hi with hi;omega
  ·exact h.lo _ _ hi
 ·intro k hk
  obtain⟨i,hi⟩:=foot_mem.1 hk
  rw[hr] at hi
  split at hi
  ·rcases hv with hv | ⟨g,hv,hg⟩
   ·rw[hv,←role_v B V hc] at hi;exact Or.inl (foot_mem.2 ⟨_,hi⟩)
   ·rw[hv] at hi;injection hi with hi;exact Or.inr (by omega)
  ·exact Or.inl (foot_mem.2 ⟨_,hi⟩)
theorem is_split {l:List (Int×Int)} {a:Int} (h:a∈l.map (·.1)): ∃pre v post,l=pre++(a,v)::post∧a∉pre.map (·.1)∧isGet l a=v∧ ∀u,isSet l a u=pre++(a,u)::post:=by
 induction l with
 | nil=>cases h
 | cons x l ih=>
  by_cases e:x.1=a
  ·refine⟨[],x.2,l,?_,by simp,?_,fun u=> ?_⟩
   ·rw[←e];rfl
   ·unfold isGet;rw[if_pos e]
   ·unfold isSet;rw[if_pos e];rfl
  ·obtain⟨pre,v,post,h1,h2,h3,h4⟩:=ih (by simpa[Ne.symm e] using h)
   refine⟨x::pre,v,post,by rw[h1];rfl,?_,?_,fun u=> ?_⟩
   ·intro hm
    rcases List.mem_cons.1 hm with h | h
    ·exact e h.symm
    ·exact h2 h
   ·unfold isGet;rw[if_neg e];exact h3
   ·unfold isSet;rw[if_neg e,h4 u];rfl
theorem isSet_not {l:List (Int×Int)} {a:Int} (h:a∉l.map (·.1)) (v:Int):isSet l a v=l++[(a,v)]:=by
 induction l with
 | nil=>rfl
 | cons x l ih=>
  simp at h
  unfold isSet
  rw[if_neg (fun e=>h.1 e.symm),ih (by simpa using h.2)]
  rfl
theorem findNow_not {es:List MapEntry} {l:List (Int×Int)} (hv:es.map viewE=l.map isV) {a:Int} (h:a∉l.map (·.1)):Instr.findNow (.int .u64) (.int .u64 a) es 0=some none:=by
 refine findU_none fun e he=> ?_
 have hm:viewE e∈l.map isV:=hv▸List.mem_map_of_mem he
 obtain⟨x,hx,hxe⟩:=List.mem_map.1 hm
 have hk:e.key= .int .u64 x.1:=by have:=congrArg Prod.fst hxe;exact this.symm
 exact⟨x.1,hk,fun e=>h (by rw[←e];exact List.mem_map_of_mem hx)⟩
theorem findNow_at {es:List MapEntry} {l:List (Int×Int)} (hv:es.map viewE=l.map isV) {a v:Int} {pre post:List (Int×Int)} (hl:l=pre++(a,v)::post) (h:a∉pre.map (·.1)):
  ∃(es1 es2:List MapEntry) (e:MapEntry),es=es1++e::es2∧es1.map viewE=pre.map isV∧es2.map viewE=post.map isV∧e.key= .int .u64 a∧e.val= .int .i64 v∧Instr.findNow (.int .u64) (.int .u64 a) es 0=some (some (es1.length,.int .i64 v)):=by
 rw[hl,List.map_append,List.map_cons] at hv
 obtain⟨es1,es3,h1,h2,h3⟩:=List.map_eq_append_iff.1 hv
 obtain⟨e,es2,h4,h5,h6⟩:=List.map_eq_cons_iff.1 h3
 subst h1 h4
 have hk:e.key= .int .u64 a:=congrArg Prod.fst h5
 have hvl:e.val= .int .i64 v:=congrArg Prod.snd h5
 refine⟨es1,es2,e,rfl,h2,h6,hk,hvl,?_⟩
 have:=findU_at (k:=a) (e:=e) (post:=es2) hk (pre:=es1) (i:=0) (fun d hd=>by
  have hm:viewE d∈pre.map isV:=h2▸List.mem_map_of_mem hd
  obtain⟨x,hx,hxe⟩:=List.mem_map.1 hm
  have hk:d.key= .int .u64 x.1:=by have:=congrArg Prod.fst hxe;exact this.symm
  exact⟨x.1,hk,fun e=>h (by rw[←e];exact List.mem_map_of_mem hx)⟩)
 rw[this,hvl]
 simp
theorem modify_mid {α:Type} (f:α→α): ∀(l1:List α) (e:α) (l2:List α),(l1++e::l2).modify l1.length f=l1++f e::l2
 | [],e,l2=>by simp[List.modify_cons]
 | x::l1,e,l2=>by
  have:=modify_mid f l1 e l2
  simp only[List.cons_append,List.length_cons,List.modify_succ_cons]
  rw[this]
theorem SlabIs.put {w:World} {N:Nat} {B:SB} {V:Nat→Value} {size:Int} {A:SA} (h:SlabIs w N B V size A) (a v:Int):
  ∃w',(Instr.mapUpdate 198 (.map (some B.m)) (.int .u64 a) (.int .i64 v)).run Tryz.prog w= .ok () w'∧SlabIs w' N B V size { A with is:=isSet A.is a v }∧Only [B.m] w w':=by
 obtain⟨es,clock,h1,h2,h3b⟩:=h.mp
 have hO: ∀o,Only [B.m] w (w.putObj B.m o):=fun o=>(Only.refl _ _).putObj (Or.inl (by simp)) o
 have hS: ∀es' c,es'.toList.map viewE=(isSet A.is a v).map isV→BornOK es'.toList c→SlabIs (w.putObj B.m (.map es' c)) N B V size { A with is:=isSet A.is a v }:=by
  intro es' c he hb
  have hne: ∀i k,role B V i=some k→i≠2→k∉ [B.m]:=by
   intro i k hk hi hm
   exact hi (h.apart i 2 k hk (by rw[role_m,List.mem_singleton.1 hm]))
  refine⟨(hO _).blk h.st (hne 0 _ rfl (by omega)),(hO _).blk h.hdr (hne 1 _ rfl (by omega)),fun c hc=>(h.fre c hc).only (hO _) (hne _ _ (role_f B V hc) (by omega)) (fun g hg=>hne _ _ ((role_v B V hc).trans hg) (by omega)),⟨es',c,putObj_at h1,he,hb⟩,h.apart,h.lo⟩
 by_cases hm:a∈A.is.map (·.1)
 ·obtain⟨pre,u,post,p1,p2,p3,p4⟩:=is_split hm
  obtain⟨es1,es2,e,q1,q2,q3,q4,q5,q6⟩:=findNow_at h2 p1 p2
  have hat:es[es1.length]?=some e:=by rw[←Array.getElem?_toList,q1];simp
  refine⟨_,run_updU_old w _ _ _ Tryz.underlying198 Tryz.underlying62 B.m es clock h1 a (.int .i64 v) es1.length (.int .i64 u) q6 (by rw[hat,Option.map_some,q4]),hS _ _ ?_ ?_,hO _⟩
  ·rw[Array.toList_modify,q1,p4 v]
   rw[modify_mid]
   simp[q2,q3,viewE,isV]
  ·rw[Array.toList_modify,q1,modify_mid]
   rw[q1] at h3b
   unfold BornOK at h3b ⊢
   simpa using h3b
 ·refine⟨_,run_updU_new w _ _ _ Tryz.underlying198 Tryz.underlying62 B.m es clock h1 a (.int .i64 v) (findNow_not h2 hm),hS _ _ ?_ ?_,hO _⟩
  ·rw[Array.toList_push,List.map_append,h2,isSet_not hm v,List.map_append]
   rfl
  ·rw[Array.toList_push]
   exact born_push h3b _ rfl
end Go.Proofs.YtjmaicckkkdjpaaGreat
/- NewFree; Put over any address; slab.give. -/
namespace Go.Proofs.YtjmaicckkkdjpaaGreat
open Go.RowKit
def putL (xs:List Int) (a:Int):List Int:=if a∈xs then xs else upF (xs.length+1) (xs++[a]) xs.length
theorem putL_length (xs:List Int) (a:Int):(putL xs a).length≤xs.length+1:=by
 unfold putL
 split
 ·omega
 ·rw[upF_length];simp
theorem dropA_length (xs:List Int) (a:Int):(dropA xs a).length≤xs.length:=by
 unfold dropA
 split
 ·simp[remL_length]
 ·exact Nat.le_refl _
theorem FPut_any (f:Nat) (v:Value) (xs:List Int) (a:Int) (hx:xs.length≤100000) (h0:a≠0) (w:World) (h:FreeRow w f v xs):
  Calls Tryz.prog 137 #[.pointer (some ⟨f,0,none⟩),.int .u64 a] w fun e w'=>e= .returned (.int .i64 0)∧ ∃v',FreeRow w' f v' (putL xs a)∧Only (f::v.ownBlock.toList) w w'∧(v'.ownBlock=v.ownBlock∨ ∃g,v'.ownBlock=some g∧w.heap.size≤g):=by
 by_cases hm:a∈xs
 ·have hH:=has_any f v xs a (by omega) w h
  rw[show decide (a∈xs)=true by simp[hm]] at hH
  have hp:putL xs a=xs:=by unfold putL;rw[if_pos hm]
  rw[hp]
  have t0:((a:Int)==0)=false:=by simp[h0]
  have HH:=hid hH
  have H:=hid h
  clear hH h hm hp
  go_enter Tryz.func137,Tryz.ntmps137
  go_wp2_with fail
  refine HH.out.mono ?_
  rintro e w2 ⟨rfl,hb2⟩
  go_wp2
  go_ret
  exact⟨rfl,v,H.out.only (Only.of_below hb2 []) (by simp) (by simp),(Only.of_below hb2 []).mono (by simp),Or.inl rfl⟩
 ·refine(FPut_z f v xs a hx h0 hm w h).mono ?_
  rintro e w' ⟨h1,v',xs',h2,rfl,h3⟩
  refine⟨h1,v',?_,h3⟩
  unfold putL;rw[if_neg hm];exact h2
theorem NewFree_z (w:World):Calls Tryz.prog 94 #[.slice none 0 0] w fun e w'=> ∃f,e= .returned (.pointer (some ⟨f,0,none⟩))∧w.heap.size≤f∧FreeRow w' f (.slice none 0 0) []∧Below w.heap.size w w':=by
 go_enter Tryz.func94,Tryz.ntmps94
 go_wp2
 go_loop [10] (fun i=>i= .int .i64 0) (fun _=>0)
 case atStart=>rfl
 case round=>
  subst hrel
  go_wp2
  go_ret
  refine⟨w.heap.size,rfl,Nat.le_refl _,⟨⟨_,Blk.new w _ _⟩,⟨rfl,Or.inl ⟨rfl,rfl⟩⟩,by simp[Value.ownBlock]⟩,by(repeat(first | exact Below.refl _ _ | (refine ba ?_ _) | (refine Below.drew ?_) | (refine below_drewN ?_ _) | (refine Below.alloc ?_ (by first | omega | (simp;done) | (simp;omega)) _) | (refine Below.setCell ?_ (by first | omega | (simp;done) | (simp;omega)) _) | (refine bx ?_ (by assumption)) | (refine Below.trans ?_ (Below.mono (by assumption) (by first | omega | (simp;done) | (simp;omega))))))⟩
def putSA (A:SA) (c:Nat) (a:Int):SA:={ A with fr:=updN A.fr c (putL (A.fr c) a) }
def classSA (A:SA) (i c:Nat):SA:={ A with hd:=A.hd.set i ((c:Int),(A.hd.getD i (0,0)).2) }
def giveTo (A:SA) (i c:Nat):Nat→SA
 | 0=>classSA A i c
 | k+1=>putSA (giveTo A i c k) c (blockZ i c k)
def giveSA (A:SA) (i c:Nat):SA:=giveTo A i c (nb c)
theorem giveTo_hd (A:SA) (i c k:Nat):(giveTo A i c k).hd=A.hd.set i ((c:Int),(A.hd.getD i (0,0)).2):=by
 induction k with
 | zero=>rfl
 | succ k ih=>exact ih
theorem giveTo_len (A:SA) (i c k d:Nat):((giveTo A i c k).fr d).length≤(A.fr d).length+k:=by
 induction k with
 | zero=>exact Nat.le_refl _
 | succ k ih=>
  show((updN (giveTo A i c k).fr c (putL ((giveTo A i c k).fr c) (blockZ i c k))) d).length≤_
  unfold updN
  split
  ·rename_i e;subst e
   have:=putL_length ((giveTo A i d k).fr d) (blockZ i d k)
   omega
  ·omega
theorem headC_length (hd:List (Int×Int)):(headC hd).length=2*hd.length:=by
 unfold headC
 induction hd with
 | nil=>rfl
 | cons x l ih=>rw[List.flatMap_cons,List.length_append,ih];simp;omega
theorem headC_get: ∀(hd:List (Int×Int)) (i:Nat) (hi:i<hd.length),(headC hd)[2*i]?=some (.int .i64 hd[i].1)∧(headC hd)[2*i+1]?=some (.int .u64 hd[i].2)
 | [],i,hi=>by simp at hi
 | x::l,0,_=>⟨rfl,rfl⟩
 | x::l,i+1,hi=>by
  have:=headC_get l i (by simpa using hi)
  have e1:headC (x::l)= .int .i64 x.1:: .int .u64 x.2::headC l:=rfl
  rw[e1,show 2*(i+1)=2*i+1+1 by omega]
  simpa using this
theorem headC_set0 (hd:List (Int×Int)) (i:Nat) (c:Int):(headC hd).set (2*i) (.int .i64 c)=headC (hd.set i (c,(hd.getD i (0,0)).2)):=by
 induction hd generalizing i with
 | nil=>rfl
 | cons x l ih=>
  have e1: ∀x,headC (x::l)= .int .i64 x.1:: .int .u64 x.2::headC l:=fun _=>rfl
  cases i with
  | zero=>simp[e1]
  | succ i=>
   rw[e1,show 2*(i+1)=2*i+1+1 by omega]
   simp only[List.set_cons_succ,ih]
   simp[headC]
theorem headC_set1 (hd:List (Int×Int)) (i:Nat) (c:Int):(headC hd).set (2*i+1) (.int .u64 c)=headC (hd.set i ((hd.getD i (0,0)).1,c)):=by
 induction hd generalizing i with
 | nil=>rfl
 | cons x l ih=>
  have e1: ∀x,headC (x::l)= .int .i64 x.1:: .int .u64 x.2::headC l:=fun _=>rfl
  cases i with
  | zero=>simp[e1]
  | succ i=>
   rw[e1,show 2*(i+1)+1=2*i+1+1+1 by omega]
   simp only[List.set_cons_succ,ih]
   simp[headC]
theorem setIf_toArray (l:List Value) (i:Nat) (v:Value):l.toArray.setIfInBounds i v=(l.set i v).toArray:=by
 apply Array.ext'
 simp
theorem SlabIs.head {w:World} {N:Nat} {B:SB} {V:Nat→Value} {size:Int} {A:SA} (h:SlabIs w N B V size A) (i:Nat) (v:Value) (hd':List (Int×Int)) (hl:hd'.length=A.hd.length) (hv:(headC A.hd).set i v=headC hd'):
  SlabIs (w.setCell ⟨B.h,i,none⟩ v) N B V size { A with hd:=hd' }∧Only [B.h] w (w.setCell ⟨B.h,i,none⟩ v):=by
 have hO:Only [B.h] w (w.setCell ⟨B.h,i,none⟩ v):=(Only.refl _ _).setCell (Or.inl (by simp)) _
 have hne: ∀j k,role B V j=some k→j≠1→k∉ [B.h]:=by
  intro j k hk hj hm
  exact hj (h.apart j 1 k hk (by rw[role_h,List.mem_singleton.1 hm]))
 refine⟨⟨?_,?_,fun c hc=>(h.fre c hc).only hO (hne _ _ (role_f B V hc) (by omega)) (fun g hg=>hne _ _ ((role_v B V hc).trans hg) (by omega)),?_,h.apart,h.lo⟩,hO⟩
 ·show Blk _ _ _ (slabC B size hd'.length)
  rw[hl]
  exact hO.blk h.st (hne 0 _ rfl (by omega))
 ·have:=h.hdr.set_ i v
  rw[setIf_toArray,hv] at this
  exact this
 ·obtain⟨es,c,h1,h2⟩:=h.mp
  exact⟨es,c,(hO.block B.m (h.lt (role_m B V)) (hne 2 _ rfl (by omega))).trans h1,h2⟩
theorem SlabIs.cf {w:World} {N:Nat} {B:SB} {V:Nat→Value} {size:Int} {A:SA} (h:SlabIs w N B V size A) {c:Nat} (hc:c<4):w.cell? ⟨B.s,2+c,none⟩=some (.pointer (some ⟨B.f c,0,none⟩)):=by
 rw[h.st.cell]
 rcases Nat.lt_or_ge c 1 with h1 | h1
 ·obtain rfl:c=0:=by omega
  rfl
 ·rcases Nat.lt_or_ge c 2 with h2 | h2
  ·obtain rfl:c=1:=by omega
   rfl
  ·rcases Nat.lt_or_ge c 3 with h3 | h3
   ·obtain rfl:c=2:=by omega
    rfl
   ·obtain rfl:c=3:=by omega
    rfl
theorem SlabIs.ch {w:World} {N:Nat} {B:SB} {V:Nat→Value} {size:Int} {A:SA} (h:SlabIs w N B V size A):w.cell? ⟨B.s,1,none⟩=some (.slice (some ⟨B.h,0,none⟩) A.hd.length A.hd.length):=h.st.cell 1
theorem SlabIs.cm {w:World} {N:Nat} {B:SB} {V:Nat→Value} {size:Int} {A:SA} (h:SlabIs w N B V size A):w.cell? ⟨B.s,6,none⟩=some (.map (some B.m)):=h.st.cell 6
structure Moved (B:SB) (V V':Nat→Value) (w w':World):Prop where
 only:Only (foot B V) w w'
 foot: ∀k∈foot B V',k∈foot B V∨w.heap.size≤k
theorem Moved.trans {B:SB} {V V' V2:Nat→Value} {w w' w2:World} (h:Moved B V V' w w') (k:Moved B V' V2 w' w2):Moved B V V2 w w2:=
 ⟨h.only.trans k.only h.foot,fun x hx=>by
  rcases k.foot x hx with h1 | h1
  ·exact h.foot x h1
  ·exact Or.inr (Nat.le_trans h.only.size h1)⟩
theorem Moved.of_below {B:SB} {V:Nat→Value} {w w':World} (h:Below w.heap.size w w'):Moved B V V w w':=⟨Only.of_below h _,fun _ h=>Or.inl h⟩
theorem give_z (N:Nat) (B:SB) (V:Nat→Value) (size:Int) (A:SA) (i c:Nat) (w:World) (h:SlabIs w N B V size A) (hN:N≤w.heap.size) (hi:1≤i∧i≤64) (hl:i<A.hd.length) (hc:c<4) (hx:(A.fr c).length≤50000) (hd:A.hd.length≤1000):
  Calls Tryz.prog 100 #[.pointer (some ⟨B.s,0,none⟩),.int .i64 (i:Int),.int .i64 (c:Int)] w fun e w'=>(∃r,e= .returned r)∧ ∃V',SlabIs w' N B V' size (giveSA A i c)∧Moved B V V' w w':=by
 have i1:(0:Int)≤(i:Int):=by omega
 have i2:(i:Int)< (A.hd.length:Int):=by omega
 have c1:(0:Int)≤(c:Int):=by omega
 have c2:(c:Int)<4:=by omega
 have y1:=h.ch
 have yf:w.frozen? ⟨B.h,i*2,none⟩=false:=h.hdr.frozen _
 obtain⟨q,y2⟩: ∃q,w.cell? ⟨B.h,i*2,none⟩=some (.int .i64 q):=⟨_,by rw[h.hdr.cell,show i*2=2*i by omega,List.getElem?_toArray];exact(headC_get A.hd i hl).1⟩
 obtain⟨L,hL⟩: ∃L,L=A.hd.length:=⟨_,rfl⟩
 rw[←hL] at i2 y1
 have hnb:=nb_eq c
 obtain⟨n,hn⟩: ∃n,n=nb c:=⟨_,rfl⟩
 have hn15:n≤15:=by rw[hn];have:=blocksZ_le c;omega
 rw[←hn] at hnb
 have h1:=h.head (i*2) (.int .i64 (c:Int)) (A.hd.set i ((c:Int),(A.hd.getD i (0,0)).2)) (by simp) (by rw[show i*2=2*i by omega];exact headC_set0 A.hd i c)
 have H1:=hid h1
 have HN:=hid hN
 have HL:=hid hL
 have HB:=hid hnb
 have Hn:=hid hn
 have HX:=hid hx
 clear h1 h hN hL hnb hn hx hd hl
 go_enter Tryz.func100,Tryz.ntmps100
 go_wp2_with fail
 refine(Blocks_z (c:Int) _).mono ?_
 rintro e w2 ⟨rfl,hb2⟩
 rw[←HB.out]
 have HS2:Hid (SlabIs w2 N B V size (giveTo A i c 0)∧Moved B V V w w2):=
  ⟨H1.out.1.bel hb2,((⟨H1.out.2.mono (fun x hx=>by obtain rfl:=List.mem_singleton.1 hx;exact foot_mem.2 ⟨1,rfl⟩),fun _ h=>Or.inl h⟩:Moved B V V w _)).trans (Moved.of_below hb2)⟩
 clear hb2 H1 y1 yf y2
 go_wp2
 go_loopw [17] (fun j wr=> ∃k:Nat,k≤n∧j= .int .i64 k∧ ∃V',Hid (SlabIs wr N B V' size (giveTo A i c k)∧Moved B V V' w wr)) (fun j _=>(n- (intOf j).toNat))
 case atStart=>exact⟨0,by omega,rfl,V,HS2⟩
 case round=>
  obtain⟨k,hk,rfl,V1,hS⟩:=hrel
  by_cases hlt:k<n
  ·have k1:(0:Int)≤(k:Int):=by omega
   have k2:(k:Int)< (n:Int):=by omega
   have hnn:N≤wr.heap.size:=Nat.le_trans HN.out hS.out.2.only.size
   have hSt:=hid hS.out.1.st
   have z0:wr.drew.cell? ⟨B.s,2+c,none⟩=some (.pointer (some ⟨B.f c,0,none⟩)):=hS.out.1.cf hc
   have hne:blockZ (i:Int) (c:Int) (k:Int)≠0:=by
    unfold blockZ
    have:=bytesZ_le c
    have h2:(0:Int)≤k*bytesZ c:=Int.mul_nonneg (by omega) this.1
    rw[if_pos ⟨by omega,by omega,by omega,by have:=HB.out;omega⟩]
    omega
   have PUT: ∀w3,Below wr.heap.size wr w3→Calls Tryz.prog 137 #[.pointer (some ⟨B.f c,0,none⟩),.int .u64 (blockZ (i:Int) (c:Int) (k:Int))] w3 fun e w'=>(∃r,e= .returned r)∧ ∃V',Hid (SlabIs w' N B V' size (giveTo A i c (k+1))∧Moved B V V' w w'):=by
    intro w3 hb
    have hs:=hS.out.1.bel hb
    have hlen:((giveTo A i c k).fr c).length≤100000:=by have:=giveTo_len A i c k c;have:=HX.out;omega
    refine(FPut_any (B.f c) (V1 c) _ _ hlen hne w3 (hs.fre c hc)).mono ?_
    rintro e w4 ⟨rfl,v',h1,h2,h3⟩
    obtain⟨g1,g2,g3⟩:=hs.free (Nat.le_trans hnn hb.size) hc h1 h2 h3
    exact⟨⟨_,rfl⟩,_,g1,(hS.out.2.trans (Moved.of_below hb)).trans ⟨g2,g3⟩⟩
   have HP:=hid PUT
   clear PUT hS hne hnn
   have ZL:=hid ((Blk.lt hSt.out:B.s<wr.heap.size))
   go_wp2_with fail
   go_region_with (first
    | (go_at_call 102;refine(Block_z _ _ _ _).mono ?_;rintro e w3 ⟨rfl,hb3⟩;have HB3:=hid ((belDrew wr).trans hb3);have z3:w3.cell? ⟨B.s,2+c,none⟩=some (.pointer (some ⟨B.f c,0,none⟩)):=(hb3.cell (p:=⟨B.s,2+c,none⟩) ZL.out).trans z0;clear hb3)
    | (go_at_call 137;refine(HP.out _ (by have h:=HB3.out;exact h)).mono ?_;rintro e w4 ⟨⟨r,rfl⟩,V2,H4⟩))
   all_goals
    try go_simp
    try simp only[Act.put,List.setIfInBounds_toArray,List.set_cons_zero,List.set_cons_succ]
    go_wp2
    go_roundw
    case rel=>exact⟨k+1,by omega,by go_num,V2,H4⟩
    case measure=>simp[intOf];omega
  ·obtain rfl:k=n:=by omega
   go_wp2
   go_end0
   exact⟨⟨_,rfl⟩,V1,by unfold giveSA;rw[←Hn.out];exact hS.out.1,hS.out.2⟩
end Go.Proofs.YtjmaicckkkdjpaaGreat
/- A word of an image (slab). -/
namespace Go.Proofs.YtjmaicckkkdjpaaGreat
open Go.RowKit
theorem word_s (p:Option Addr) (cap:Nat) (bs:List Int) (a:Nat) (ha:a+8≤bs.length) (hl:bs.length≤9223372036854775807) (w:World) (h:BytesIn w p cap bs):
  Calls Tryz.prog 95 #[.slice p bs.length cap,.int .u64 (a:Int)] w fun e w'=>e= .returned (.int .u64 (leW ((bs.drop a).take 8)))∧w=w':=by
 obtain⟨b,off,rfl,hbl,hbc⟩:=h.2.2 (by omega)
 obtain⟨N,hN⟩: ∃N,N=bs.length:=⟨_,rfl⟩
 rw[←hN] at ha hl ⊢
 obtain⟨cs,hcs⟩: ∃cs,cs=(bs.drop a).take 8:=⟨_,rfl⟩
 have hcl:cs.length=8:=by rw[hcs];simp;omega
 have hby: ∀j c,cs[j]?=some c→w.cell? ⟨b,off+(a+j),none⟩=some (.int .u8 c)∧0≤c∧c<256:=by
  intro j c hj
  have hj8:j<8:=by have:=(List.getElem?_eq_some_iff.1 hj).1;omega
  rw[hcs,List.getElem?_take,if_pos hj8,List.getElem?_drop] at hj
  exact⟨hbc _ _ hj,h.2.1 c (List.mem_of_getElem? hj)⟩
 rw[←hcs]
 have HBY:=hid hby
 have HCL:=hid hcl
 clear h hbc hby hcl hcs hN
 go_enter Tryz.func95,Tryz.ntmps95
 go_wp2
 go_loop [4,6] (fun v i=> ∃k:Nat,k≤8∧i= .int .u64 k∧v= .int .u64 (leW (cs.take k))) (fun _ i=>(8- (intOf i).toNat))
 case atStart=>exact⟨0,by omega,rfl,rfl⟩
 case round=>
  obtain⟨k,hk,rfl,rfl⟩:=hrel
  by_cases hlt2:k<8
  ·obtain⟨c,hc⟩: ∃c,cs[k]?=some c:=⟨_,List.getElem?_eq_getElem (by have:=HCL.out;omega)⟩
   obtain⟨y0,y1,y2⟩:=HBY.out k c hc
   have i1:(0:Int)≤k:=by omega
   have i2:(k:Int)<8:=by omega
   have i3:IntKind.u64.wrap ((a:Int)+(k:Int))=((a+k:Nat):Int):=by rw[IntWalk.u64_in _ (by omega)];simp
   have i4:(0:Int)≤((a+k:Nat):Int):=by omega
   have i5:((a+k:Nat):Int)< (N:Int):=by omega
   have HC:=hid hc
   have hw:Hid (bits BinOp.or IntKind.u64 (leW (cs.take k)) (IntKind.u64.wrap (c*2^ (8*k)))=leW (cs.take (k+1))):=by
    have hl:(cs.take k).length=k:=by have:=HCL.out;simp;omega
    have h1:=leW_bounds (bs:=cs.take k) (fun z hz=>by
     obtain⟨j,hj⟩:=List.getElem?_of_mem (List.mem_of_mem_take hz)
     exact(HBY.out j z hj).2)
    rw[hl] at h1
    show bits _ _ _ _=_
    rw[or_word h1.1 h1.2 y1 y2 hlt2]
    have h2:=leW_snoc (cs.take k) c
    rw[hl] at h2
    rw[←h2]
    congr 1
    obtain⟨hkl,hck⟩:=List.getElem?_eq_some_iff.1 HC.out
    rw[List.take_succ_eq_append_getElem hkl,hck]
   clear hc
   go_wp2
   go_round
   case rel=>exact⟨k+1,by omega,by go_num,by rw[hw.out]⟩
   case measure=>simp[intOf];omega
  ·obtain rfl:k=8:=by omega
   have ht:cs.take 8=cs:=List.take_of_length_le (by have:=HCL.out;omega)
   rw[ht]
   clear hk hlt2
   go_wp2
   go_ret
   exact⟨rfl,rfl⟩
end Go.Proofs.YtjmaicckkkdjpaaGreat
/- slab.Of: what it comes to, of any bytes. -/
namespace Go.Proofs.YtjmaicckkkdjpaaGreat
open Go.RowKit Go.Shelf
attribute [local go_sem] Oper.semAt_some
def useSA (A:SA) (i c j:Nat):SA:={ A with fr:=updN A.fr c (dropA (A.fr c) (blockZ i c j)),is:=isSet A.is (blockZ i c j) 2 }
def bitsSA (A:SA) (i c:Nat) (l:List (Fin 64)):SA:=l.foldl (fun A j=>useSA A i c j.val) A
def hdSA (A:SA) (i b:Nat):SA:={ A with hd:=A.hd.set i ((A.hd.getD i (0,0)).1,(b:Int)) }
def oneSA (A:SA) (i c b:Nat):SA:=bitsSA (giveSA (hdSA A i b) i c) i c (setBits b)
def newSA (n:Nat):SA:=⟨List.replicate (1+n) (0,0),fun _=>[],[]⟩
def ofTo (bs:List Int) (n:Nat):Nat→SA
 | 0=>newSA n
 | k+1=>oneSA (ofTo bs n k) (k+1) (clsAt bs (k+1)) (bitAt bs (k+1))
theorem bitsSA_hd (A:SA) (i c:Nat) (l:List (Fin 64)):(bitsSA A i c l).hd=A.hd:=by
 unfold bitsSA
 induction l generalizing A with
 | nil=>rfl
 | cons x l ih=>rw[List.foldl_cons,ih];rfl
theorem bitsSA_len (A:SA) (i c:Nat) (l:List (Fin 64)) (d:Nat):((bitsSA A i c l).fr d).length≤(A.fr d).length:=by
 unfold bitsSA
 induction l generalizing A with
 | nil=>exact Nat.le_refl _
 | cons x l ih=>
  rw[List.foldl_cons]
  refine Nat.le_trans (ih _) ?_
  show((updN A.fr c (dropA (A.fr c) (blockZ i c x.val))) d).length≤_
  unfold updN
  split
  ·rename_i e;subst e;exact dropA_length _ _
  ·exact Nat.le_refl _
theorem bitsSA_snoc (A:SA) (i c:Nat) (l:List (Fin 64)) (x:Fin 64):bitsSA A i c (l++[x])=useSA (bitsSA A i c l) i c x.val:=by
 unfold bitsSA;rw[List.foldl_append];rfl
theorem ofTo_hd (bs:List Int) (n k:Nat):(ofTo bs n k).hd.length=1+n:=by
 induction k with
 | zero=>simp[ofTo,newSA]
 | succ k ih=>simp[ofTo,oneSA,bitsSA_hd,giveSA,giveTo_hd,hdSA,ih]
theorem ofTo_len (bs:List Int) (n k d:Nat):((ofTo bs n k).fr d).length≤15*k:=by
 induction k with
 | zero=>simp[ofTo,newSA]
 | succ k ih=>
  refine Nat.le_trans (bitsSA_len _ _ _ _ d) ?_
  refine Nat.le_trans (giveTo_len _ _ _ _ d) ?_
  have:=nb_le (clsAt bs (k+1))
  show((ofTo bs n k).fr d).length+_≤_
  omega
structure Made (w:World) (size:Int) (n k:Nat) (f:Nat→Nat) (W:World):Prop where
 bel:Below w.heap.size w W
 st:Blk W (w.heap.size+2) 202 #[.int .i64 size,.slice (some ⟨w.heap.size,0,none⟩) (1+n) (1+n),.pointer (if 0<k then some ⟨f 0,0,none⟩ else none),.pointer (if 1<k then some ⟨f 1,0,none⟩ else none),.pointer (if 2<k then some ⟨f 2,0,none⟩ else none),.pointer (if 3<k then some ⟨f 3,0,none⟩ else none),.map (some (w.heap.size+1))]
 hdr:Blk W w.heap.size 208 (headC (List.replicate (1+n) (0,0))).toArray
 mp:W.heap[w.heap.size+1]?=some (.map #[] 0)
 box:Blk W (w.heap.size+3) 147 #[.pointer (some ⟨w.heap.size+2,0,none⟩)]
 fre: ∀c,c<k→FreeRow W (f c) (.slice none 0 0) []
 inj: ∀c d,c<k→d<k→f c=f d→c=d
 far: ∀c,c<k→w.heap.size+4≤f c
theorem Made.done {w W:World} {size:Int} {n:Nat} {f:Nat→Nat} (h:Made w size n 4 f W):SlabIs W w.heap.size ⟨w.heap.size+2,w.heap.size,w.heap.size+1,f 0,f 1,f 2,f 3⟩ (fun _=> .slice none 0 0) size (newSA n):=by
 have hf: ∀c,c<4→SB.f ⟨w.heap.size+2,w.heap.size,w.heap.size+1,f 0,f 1,f 2,f 3⟩ c=f c:=by
  intro c hc
  have:c=0∨c=1∨c=2∨c=3:=by omega
  rcases this with rfl | rfl | rfl | rfl<;>rfl
 have hr: ∀i k,role ⟨w.heap.size+2,w.heap.size,w.heap.size+1,f 0,f 1,f 2,f 3⟩ (fun _=>Value.slice none 0 0) i=some k→(i=0∧k=w.heap.size+2)∨(i=1∧k=w.heap.size)∨(i=2∧k=w.heap.size+1)∨ ∃c,c<4∧i=3+c∧k=f c:=by
  intro i k hk
  unfold role at hk
  split at hk
  ·exact Or.inl ⟨by assumption,by injection hk with hk;exact hk.symm⟩
  ·split at hk
   ·exact Or.inr (Or.inl ⟨by assumption,by injection hk with hk;exact hk.symm⟩)
   ·split at hk
    ·exact Or.inr (Or.inr (Or.inl ⟨by assumption,by injection hk with hk;exact hk.symm⟩))
    ·split at hk
     ·injection hk with hk
      rw[hf _ (by omega)] at hk
      exact Or.inr (Or.inr (Or.inr ⟨i-3,by omega,by omega,hk.symm⟩))
     ·split at hk
      ·cases hk
      ·cases hk
 refine⟨?_,h.hdr,fun c hc=> ?_,⟨_,_,h.mp,rfl,by simp[BornOK]⟩,?_,?_⟩
 ·have:=h.st
  simp only[show(0:Nat)<4 by omega,show(1:Nat)<4 by omega,show(2:Nat)<4 by omega,show(3:Nat)<4 by omega,if_true] at this
  simpa[slabC,newSA] using this
 ·rw[hf c hc];exact h.fre c hc
 ·intro i j k hi hj
  have h1:=hr i k hi
  have h2:=hr j k hj
  rcases h1 with⟨a1,a2⟩ | ⟨a1,a2⟩ | ⟨a1,a2⟩ | ⟨c,a0,a1,a2⟩<;>rcases h2 with⟨b1,b2⟩ | ⟨b1,b2⟩ | ⟨b1,b2⟩ | ⟨d,b0,b1,b2⟩<;>try omega
  ·have:=h.far d b0;omega
  ·have:=h.far d b0;omega
  ·have:=h.far d b0;omega
  ·have:=h.far c a0;omega
  ·have:=h.far c a0;omega
  ·have:=h.far c a0;omega
  ·have:=h.inj c d a0 b0 (by omega);omega
 ·intro i k hi
  rcases hr i k hi with⟨a1,a2⟩ | ⟨a1,a2⟩ | ⟨a1,a2⟩ | ⟨c,a0,a1,a2⟩<;>try omega
  have:=h.far c a0;omega
theorem made_heads (n:Nat):madeCells #[Value.int .i64 0,.int .u64 0] (n*2)=(headC (List.replicate n (0,0))).toArray:=by
 apply Array.ext
 ·rw[size_madeCells];simp[headC_length];omega
 ·intro i h1 h2
  rw[size_madeCells] at h1
  have hi:i=2*(i/2)∨i=2*(i/2)+1:=by omega
  have hlt:i/2< (List.replicate n ((0:Int),(0:Int))).length:=by simp;omega
  have hg:=headC_get (List.replicate n ((0:Int),(0:Int))) (i/2) hlt
  simp only[List.getElem_replicate] at hg
  have e2:(headC (List.replicate n (0,0))).toArray[i]?=some (if i % 2=0 then Value.int .i64 0 else .int .u64 0):=by
   rw[List.getElem?_toArray]
   rcases hi with hi | hi
   ·rw[hi,hg.1,if_pos (by omega)]
   ·rw[hi,hg.2,if_neg (by omega)]
  have e1:(headC (List.replicate n (0,0))).toArray[i]=if i % 2=0 then Value.int .i64 0 else .int .u64 0:=by
   have:=Array.getElem?_eq_getElem h2
   rw[e2] at this
   exact(Option.some.inj this).symm
  rw[e1]
  simp only[madeCells,Array.getElem_map,Array.getElem_range]
  have h3:i % 2=0∨i % 2=1:=by omega
  rcases h3 with h3 | h3
  ·simp[h3]
  ·simp[h3]
theorem heads_info: ∃i,Tryz.prog.info? 208=some i∧i.zero=some (.agg #[.int .i64 0,.int .u64 0])∧i.size=2∧i.bytes=16:=by
 have h:(Tryz.prog.info? 208).map (fun i=>(i.zero,i.size,i.bytes))=some (some (.agg #[.int .i64 0,.int .u64 0]),2,16):=by kernel_rfl
 obtain⟨i,hi,hz⟩:=Option.map_eq_some_iff.1 h
 simp only[Prod.mk.injEq] at hz
 exact⟨i,hi,hz.1,hz.2.1,hz.2.2⟩
theorem run_headsS (n:Nat) (hn:n≤1000) (w:World):(Instr.makeSlice 197 (.int .i64 (n:Int)) (.int .i64 (n:Int))).run Tryz.prog w= .ok (.slice (some ⟨w.heap.size,0,none⟩) n n) (w.alloc (.cells (headC (List.replicate n (0,0))).toArray 208)):=by
 obtain⟨i,h1,h2,h3,h4⟩:=heads_info
 have:=run_make (P:=Tryz.prog) w 197 208 i _ Tryz.underlying197 h1 h2 .i64 .i64 (n:Int) (n:Int) (by omega) (Int.le_refl _) (by rw[h4];omega) (by omega)
 rw[Int.toNat_natCast,h3] at this
 rw[this]
 show Result.ok _ (w.alloc (.cells (madeCells #[Value.int .i64 0,.int .u64 0] (n*2)) _))=_
 rw[made_heads]
end Go.Proofs.YtjmaicckkkdjpaaGreat
