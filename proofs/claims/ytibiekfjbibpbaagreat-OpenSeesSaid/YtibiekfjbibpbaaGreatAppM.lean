import Derived.Lib.MinMax
import Derived.RangeFuncNested
import Derived.RangeFuncBound
import Derived.Shelf.RegionOpen
import Derived.LoopNIn
import Derived.LoopIn
import Derived.Maps.OwnIn
import Derived.Deep.AppendLies
import Derived.Test.YtibiekfjbibpbaaGreatSortN
set_option maxRecDepth 100000
set_option maxHeartbeats 2000000
set_option linter.unusedVariables false
set_option linter.unusedSimpArgs false
namespace Go.Proofs.YtibiekfjbibpbaaGreat
open Go.RowKit Go.Shelf
attribute [local go_sem] Oper.semAt_some
theorem z0z (w:World):Below w.heap.size w w.drew:=⟨rfl,rfl,rfl,AG _,fun _ _=>rfl⟩
theorem z6v {w w':World} (h:Below w.heap.size w w'):w.grownBy w' none:=⟨h.os,h.tape,h.output,h.size,fun k hk _=>h.block k hk⟩
structure q0u (F:List Nat) (N0:Nat) (A B:World):Prop where
 size:A.heap.size<=B.heap.size
 block:∀k,k<N0->k∉F->B.heap[k]?=A.heap[k]?
section
variable {F:List Nat} {N0:Nat} {A B C:World}
theorem q0u.refl (F:List Nat) (N0:Nat) (A:World):q0u F N0 A A:=⟨AG _,fun _ _ _=>rfl⟩
theorem q0u.trans (h:q0u F N0 A B) (k:q0u F N0 B C):q0u F N0 A C:=⟨AH h.size k.size,fun x hx hn=>(k.block x hx hn).trans (h.block x hx hn)⟩
theorem q0u.only (h:Only F A B) (hA:N0<=A.heap.size):q0u F N0 A B:=⟨h.size,fun k hk hn=>h.block k (AL hk hA) hn⟩
theorem q0u.putObj (h:q0u F N0 A B) {l:Nat} (hl:N0<=l) (o:Obj):q0u F N0 A (B.putObj l o):=⟨by simpa[World.putObj] using h.size,fun k hk hn=>(World.putObj_heap_other (by omega)).trans (h.block k hk hn)⟩
theorem q0u.cell (h:q0u F N0 A B) {p:Addr} (hp:p.block<N0) (hn:p.block∉F):B.cell? p=A.cell? p:=World.cell?_of_block (w:=A) (h.block p.block hp hn)
end
def x7h (b off x:Nat):Value:= .slice (some ⟨b,off+8*x,none⟩) 8 8
theorem x5u (n q b off cap:Nat) (p:Option Addr) (F:List Nat) (N0 l Bs Bn:Nat) (J Jx:List (Fin q)->World->Prop) (W:World) (hq:8*q<=cap) (h6:cap<=9223372036854775807) (hp:0<q->p=some ⟨b,off,none⟩)
  (hJ:AbidesFrom W.heap.size J) (h5:Bs<N0) (h3:Bn<N0) (S:Bs∉F) (L:Bn∉F) (hN:N0<=W.heap.size)
  (hY:∀pre (x:Fin q) W1,J pre W1->pre.length<q->YieldAt Fence.wide (n-1) Tryz.prog l #[x7h b off x] W1 fun e W'=>(e= .returned (.bool true)/\J (pre++[x]) W'/\q0u F N0 W1 W')\/(e= .returned (.bool false)/\Jx (pre++[x]) W'))
  (hs:W.cell? ⟨Bs,0,none⟩=some (.slice p (8*q) cap)) (hn:W.cell? ⟨Bn,0,none⟩=some (.int .i64 8)) (h0:J [] W):
  CallsIn Fence.wide n Tryz.prog 171 #[.func (.yield l) #[] #[],.pointer (some ⟨Bs,0,none⟩),.pointer (some ⟨Bn,0,none⟩)] W fun e W'=>(∃v,e= .returned v)/\
   ((∃ys,ys=List.finRange q/\J ys W')\/(∃pre,pre<+:List.finRange q/\Jx pre W')):=by
 refine callsIn_of_wp Tryz.func171 rfl trivial ?_ rfl;simp only[Tryz.ntmps171,List.size_toArray,List.length_cons,List.length_nil,Nat.reduceAdd,Nat.reduceSub,Array.replicate_succ,Array.replicate_zero,List.push_toArray,List.append_toArray,List.nil_append,List.cons_append];obtain⟨Z,hZ⟩:∃Z,Z=8*q:=⟨_,rfl⟩;rw[<- hZ] at hs;have HZ:=hid hZ;have HS:=hid hs;have h4:=hid hn;clear hs hn hZ;gi_wp2_with fail;gi_loopw [4] (fun i wr=> ∃k:Nat,k<=q/\i= .int .i64 (8*k:Nat)/\J ((List.finRange q).take k) wr/\q0u F N0 W wr) (fun i _=>(8*q- (intOf i).toNat));case atStart=>exact⟨0,by omega,rfl,h0,q0u.refl _ _ _⟩
 case round=>
  obtain⟨i,hi,rfl,M,hK⟩:=hrel;have x1:=(hK.cell (p:=⟨Bs,0,none⟩) h5 S).trans HS.out;have x2:=(hK.cell (p:=⟨Bn,0,none⟩) h3 L).trans h4.out;by_cases hlt:i<q
  ·have i1:(0:Int)<=((8*i:Nat):Int):=by omega
   have i2:((8*i:Nat):Int)< (Z:Int):=by have:=HZ.out;omega
   obtain rfl:=hp (by omega);have i3:((8*i:Nat):Int)<=(Z:Int):=by omega
   have i4: ¬cap=8*i:=by have:=HZ.out;omega
   have i5:8*i<=cap:=by omega
   have i6:min (8:Int) ((Z-8*i:Nat):Int)=8:=by have:=HZ.out;omega
   have Y:=hJ _ _ _ none M (z6v (z0z wr)) (fun r h=>by cases h);have U:q0u F N0 W wr.drew:=hK.trans ⟨AG _,fun _ _ _=>rfl⟩;have y1:wr.drew.cell? ⟨Bs,0,none⟩=some (.slice (some ⟨b,off,none⟩) Z cap):=x1;have i7:((8*i+8:Nat):Int)<=(cap:Int):=by have:=HZ.out;omega
   have i8:8*i+8<=cap:=by have:=HZ.out;omega
   obtain⟨fn,tmps,assign,body,hy,hR⟩:=hY _ (⟨i,hlt⟩:Fin q) _ Y (by simp;omega);have hT:(List.finRange q).take i++[⟨i,hlt⟩]=(List.finRange q).take (i+1):=by rw[BF (by simpa using hlt)];simp
   have HR:=hid hR;clear hR Y M hK;unfold x7h at hy;gi_wp2;gi_region_with fail
   all_goals
    try simp only[Act.put,List.setIfInBounds_toArray,List.set_cons_zero,List.set_cons_succ]
    gi_wp2;refine⟨fun h=>by simp[Fence.wide] at h,HR.out.mono ?_⟩;rintro e W3 (⟨rfl,h2,O⟩|⟨rfl,I⟩)
    ·rw[hT] at h2;have x3:=((U.trans O).cell (p:=⟨Bn,0,none⟩) h3 L).trans h4.out;have K3:=hid (U.trans O);clear U O x1 x2 y1 hy;gi_wp2;go_roundw;case rel=>exact⟨i+1,by omega,by go_num,h2,K3.out⟩
     case measure=>simp[intOf];omega
    ·rw[hT] at I;gi_wp2;refine bodyPost_ret (results_none rfl _ _ _) rfl ?_;exact⟨⟨_,rfl⟩,.inr ⟨_,DO _ _,I⟩⟩
  ·have h1:J (List.finRange q) wr:=by rw[AY (by simp;omega)] at M;exact M
   obtain rfl:i=q:=by omega
   have i2: ¬((8*i:Nat):Int)< (Z:Int):=by have:=HZ.out;omega
   gi_wp2;go_end0;first|exact⟨⟨_,rfl⟩,.inl h1⟩|exact .inl h1
theorem z2l (n q b off cap:Nat) (p:Option Addr) (F:List Nat) (N0 Bs Bn:Nat) (w:World) (hq:8*q<=cap) (I:cap<=9223372036854775807) (hp:0<q->p=some ⟨b,off,none⟩) (O:Bs<N0) (S:Bn<N0) (L:Bs∉F) (M:Bn∉F) (hN:N0<=w.heap.size)
  (hs:w.cell? ⟨Bs,0,none⟩=some (.slice p (8*q) cap)) (hn:w.cell? ⟨Bn,0,none⟩=some (.int .i64 8)):
  SeqStopsK Fence.wide n Tryz.prog 171 #[.pointer (some ⟨Bs,0,none⟩),.pointer (some ⟨Bn,0,none⟩)] (fun x:Fin q=> #[x7h b off x]) (q0u F N0) (fun ys=>ys=List.finRange q) (fun pre=>pre<+:List.finRange q) q w:=by
 intro l J Jx W hW hJ _ hY h0;have h1:=(hW.cell (p:=⟨Bs,0,none⟩) (World.block_lt_of_cell? w _ hs)).trans hs;have h2:=(hW.cell (p:=⟨Bn,0,none⟩) (World.block_lt_of_cell? w _ hn)).trans hn;exact x5u n q b off cap p F N0 l Bs Bn J Jx W hq I hp hJ O S L M (AH hN hW.size) hY h1 h2 h0
theorem z4m (n:Nat) (v:Value) (w:World) (hv:∃a l c,v= .slice a l c):
  CallsIn Fence.wide n Tryz.prog 106 #[v,.int .i64 8] w fun e w'=>e= .returned (.func (.func 171) #[] #[.pointer (some ⟨w.heap.size,0,none⟩),.pointer (some ⟨w.heap.size+1,0,none⟩)])/\
   w'=(w.alloc (.cells #[v] 36)).alloc (.cells #[.int .i64 8] 3):=by
 obtain⟨a,l,c,rfl⟩:=hv;refine callsIn_of_wp Tryz.func106 rfl trivial ?_ rfl;simp only[Tryz.ntmps106,List.size_toArray,List.length_cons,List.length_nil,Nat.reduceAdd,Nat.reduceSub,Array.replicate_succ,Array.replicate_zero,List.push_toArray,List.append_toArray,List.nil_append,List.cons_append];gi_wp2;go_ret;exact⟨rfl,rfl⟩
end Go.Proofs.YtibiekfjbibpbaaGreat
namespace Go.Proofs.YtibiekfjbibpbaaGreat
open Go.RowKit
def q0n (P:Program) (ats:Array TypeId) (ty:TypeId) (args:Array Value) (w:World):Result Value:=(Builtin.append_ ats ty args).run P w
def v8v (ats:Array TypeId) (ty:TypeId) (args:Array Value):Sem Value:=Builtin.append_ ats ty args
theorem q0v (I:Array TypeId) (ty:TypeId) (cs:Array Bool) (args:Array Value):builtin .append I ty cs args=(do pure (.value (<- v8v I ty args))):=rfl
theorem q0h (P:Program) (I:Array TypeId) (ty:TypeId) (args:Array Value) (w:World):(v8v I ty args).run P w=q0n P I ty args w:=rfl
def q1b (w:World) (x:Value) (m:Nat) (news:List Value):Prop:=(x= .slice none 0 0/\m=0/\news=[])\/ ∃b off c,x= .slice (some ⟨b,off,none⟩) m c/\ ∀j u,news[j]?=some u->w.cell? ⟨b,off+j,none⟩=some u
theorem q1b.bel {w w':World} {x:Value} {m:Nat} {news:List Value} (h:q1b w x m news) (hb:Below w.heap.size w w'):q1b w' x m news:=by
 rcases h with h|⟨b,off,c,h1,h2⟩;·exact Or.inl h
 ·exact Or.inr ⟨b,off,c,h1,fun j u hj=>(hb.cell (p:=⟨b,off+j,none⟩) (World.block_lt_of_cell? w _ (h2 j u hj))).trans (h2 j u hj)⟩
structure v9a (P:Program) (t ty e:TypeId) (size base:Nat) (v x:Value) (n:Nat) (xs:List Value) (w:World) (v':Value) (w':World):Prop where
 run:q0n P #[t,t] ty #[v,x] w= .ok v' w'
 own:w'.ownsRow base e size v' n xs
 grown:w.grownBy w' v.ownBlock
 ob:v'.ownBlock=v.ownBlock\/v'.ownBlock=some w.heap.size
theorem q2b {P:Program} (w:World) (base:Nat) (t ty e:TypeId) (i:TypeInfo) (z:Value) (size bytes:Nat) (ht:P.underlying t=some (.slice e)) (hi:P.info? e=some i) (hz:i.zero=some z)
  (O:i.size=size) (Y:i.bytes=bytes) (h7:z.cells.size=size) (h6:0<size) (v:Value) (n:Nat) (xs:List Value) (I:w.ownsRow base e size v n xs)
  (x:Value) (m:Nat) (news:List Value) (hx:q1b w x m news) (hl:news.length=m*size) (h1:∀u∈news,u.oneCell'=true)
  (U:n+m<=maxLen) (L:(n+m)*bytes<=140737488355328) (M:base<=w.heap.size):
  ∃v' w',v9a P t ty e size base v x (n+m) (xs++news) w v' w':=by
 rcases hx with⟨rfl,rfl,rfl⟩|⟨b,off,c,rfl,hc⟩;·have hr:=run_append_owned_none (P:=P) (w:=w) base t ty e i size ht hi v n xs I;refine⟨v,w,hr,by simpa using I,⟨rfl,rfl,rfl,AG _,fun _ _ _=>rfl⟩,Or.inl rfl⟩
 ·obtain⟨v',w',hr,h2,h3,h4,h5⟩:=run_append_own_at (P:=P) w base t ty e i z size bytes ht hi hz O Y h7 h6 v n xs I ⟨b,off,none⟩ m c news hl (fun j u hj=>by
   have S:(⟨b,off,none⟩:Addr).add j=⟨b,off+j,none⟩:=by unfold Addr.add;split<;>simp_all
   rw[S];exact hc j u hj) h1 U L M
  exact⟨v',w',hr,h2,h3,h5⟩
def q1w (k:IntKind) (w:World) (v:Value) (xs:List Int):Prop:=∃ao cap,v= .slice ao xs.length cap/\(xs=[]\/ ∃b off,ao=some ⟨b,off,none⟩/\b<w.heap.size/\ ∀i x,xs[i]?=some x->w.cell? ⟨b,off+i,none⟩=some (.int k x))
theorem q1w.bel {k:IntKind} {w w':World} {v:Value} {xs:List Int} (h:q1w k w v xs) (hb:Below w.heap.size w w'):q1w k w' v xs:=by
 obtain⟨ao,cap,h1,h2⟩:=h;refine⟨ao,cap,h1,?_⟩;rcases h2 with h2|⟨b,off,h3,h4,h5⟩;·exact Or.inl h2
 ·exact Or.inr ⟨b,off,h3,AL h4 hb.size,fun i x hi=>(hb.cell (p:=⟨b,off+i,none⟩) h4).trans (h5 i x hi)⟩
theorem q1w.of_own {k:IntKind} {w:World} {base:Nat} {e:TypeId} {v:Value} {xs:List Int} (h:w.ownsRow base e 1 v xs.length (xs.map (Value.int k))):q1w k w v xs:=by
 rcases h.2 with⟨rfl,h2⟩|⟨g,cap,I,rfl,h2,h3,h4,h5,h6,h7⟩;·exact⟨none,0,by rw[h2],Or.inl (Am.1 h2)⟩
 ·refine⟨some ⟨g,0,none⟩,cap,rfl,Or.inr ⟨g,0,rfl,(AA.1 h3).1,fun i x hi=> ?_⟩⟩;have hl:i<xs.length:=(AE.1 hi).1;have hc:Blk w g e I:=h3;rw[hc.cell,AQ,<- Ad];have:(I.toList.take (xs.length*1))[i]?=some (.int k x):=by rw[h7,AM,hi];rfl
  rw[AV,if_pos (by omega)] at this;exact this
section
section
variable {α:Type}
def gotM (f:MapEntry->Option α) (es:List MapEntry) (seen:Array Nat):List α:=(es.filter fun e=>seen.contains e.born).filterMap f
theorem z8b (f:MapEntry->Option α) (es:List MapEntry):gotM f es #[]=[]:=by unfold gotM;rw[List.filter_eq_nil_iff.2 (by simp)];rfl
theorem z5t (seen:Array Nat) (b x:Nat):(seen.push b).contains x=(seen.contains x || x==b):=by rw[Array.contains_push]
theorem z3k (f:MapEntry->Option α) {es:List MapEntry} {e:MapEntry} {seen:Array Nat} (hn:(es.map (·.born)).Nodup) (he:e∈es) (hs:seen.contains e.born=false):
  (gotM f es (seen.push e.born)).Perm (gotM f es seen++(f e).toList):=by
 obtain⟨l1,l2,rfl⟩:=List.append_of_mem he;rw[Ah,Be,CS] at hn;obtain⟨h1,h2,h3⟩:=hn;rw[Br] at h2;have c1:l1.filter (fun x=>(seen.push e.born).contains x.born)=l1.filter (fun x=>seen.contains x.born):=by refine DJ fun x hx=> ?_;have:x.born≠e.born:=h3 _ (Aj.2 ⟨x,hx,rfl⟩) _ (Ae ..);rw[z5t];simp[this]
 have c2:l2.filter (fun x=>(seen.push e.born).contains x.born)=l2.filter (fun x=>seen.contains x.born):=by refine DJ fun x hx=> ?_;have:x.born≠e.born:=fun h=>h2.1 (h▸Aj.2 ⟨x,hx,rfl⟩);rw[z5t];simp[this]
 have c3:(seen.push e.born).contains e.born=true:=by rw[z5t];simp
 unfold gotM;rw[Aq,Aq,List.filter_cons,List.filter_cons,c1,c2];simp only[c3,hs,if_true,if_false,Bool.false_eq_true,List.filterMap_append,List.filterMap_cons];cases f e with
 | none=>simp
 | some v=>simp only[Option.toList,List.append_assoc];refine List.Perm.append_left _ ?_;exact(List.perm_append_singleton v _).symm
theorem x2g (f:MapEntry->Option α) (es:Array MapEntry) (seen:Array Nat) (h:(leftOf es seen).size=0):gotM f es.toList seen=es.toList.filterMap f:=by unfold gotM;rw[CY.2 (all_seen es seen h)]
theorem x9u (f:MapEntry->Option α) (es:List MapEntry) (seen:Array Nat):(gotM f es seen).length<=es.length:=AH (List.length_filterMap_le ..) (Ao ..)
theorem x5c (f:MapEntry->Option α) {es:List MapEntry} {e:MapEntry} {seen:Array Nat} (hn:(es.map (·.born)).Nodup) (he:e∈es) (hs:seen.contains e.born=false) (hf:(f e).isSome):(gotM f es seen).length<es.length:=by
 have h1:=(z3k f hn he hs).length_eq;have h2:=x9u f es (seen.push e.born);rw[AI] at h1;cases hv:f e with
 | none=>rw[hv] at hf;cases hf
 | some v=>rw[hv] at h1;simp at h1;omega
end
structure q9o (F:List Nat) (N0:Nat) (A B:World):Prop where
 keep:q0u F N0 A B
 walks:KeepsWalks A B
section
variable {F:List Nat} {N0:Nat} {A B C:World}
theorem q9o.trans (h:q9o F N0 A B) (k:q9o F N0 B C):q9o F N0 A C:=⟨h.keep.trans k.keep,h.walks.trans k.walks⟩
theorem q9o.putObj {l:Nat} {o o':Obj} (hl:A.heap[l]?=some o) (hw:o.isWalk=false) (hN:N0<=l):q9o F N0 A (A.putObj l o'):=⟨(q0u.refl F N0 A).putObj hN o',KeepsWalks.putObj o' hl hw⟩
end
end
end Go.Proofs.YtibiekfjbibpbaaGreat
namespace Go.Proofs.YtibiekfjbibpbaaGreat
open Go.RowKit Go.Shelf
theorem q9s:(Tryz.prog.info? 51).map (fun i=>(i.zero,i.size,i.bytes))=some (some (.int .u64 0),1,8):=by kernel_rfl
theorem q9p (w:World) (x:Value) (t:TypeId):∀j u,[x][j]?=some u->(w.alloc (.cells #[x] t)).cell? ((⟨w.heap.size,0,none⟩:Addr).add j)=some u:=World.news_of_block (Blk.new w t #[x])
theorem q0q {w:World} {base:Nat} {e:TypeId} {size:Nat} {v:Value} {n:Nat} {xs:List Value} (h:w.ownsRow base e size v n xs):∃a c,v= .slice a n c:=by
 rcases h.2 with⟨rfl,rfl⟩|⟨g,cap,I,rfl,_⟩;·exact⟨_,_,rfl⟩
 ·exact⟨_,_,rfl⟩
theorem z1l {A B:World} (h:KeepsOthers A B):KeepsWalks A B:=⟨h.size,fun k o hk ho=>h.same k o hk (by cases o<;>first|rfl|(simp[Obj.isWalk] at ho))⟩
theorem x3h {A B:World} {g:Nat} {cs:Array Value} {ty:TypeId} {fz:Nat×Nat} (h:Only [g] A B) (hg:A.heap[g]?=some (.cells cs ty fz)):KeepsOthers A B:=
 ⟨h.size,fun k o hk ho=>(h.block k (AA.1 hk).1 (by
  intro e;obtain rfl:k=g:=by simpa using e
  rw[hg] at hk;cases hk;cases ho)).trans hk⟩
theorem z9r {w:World} {base:Nat} {v:Value} {xs:List Int} (h:w.ownsRow base 51 1 v xs.length (xs.map (Value.int .u64))):
  (v= .slice none 0 0/\xs=[])\/ ∃g cap tl,v= .slice (some ⟨g,0,none⟩) xs.length cap/\base<=g/\RowS w g xs.length xs.toArray tl/\xs.length<=cap/\cap<=maxLen/\tl.length=cap-xs.length:=by
 rcases h.2 with⟨rfl,h2⟩|⟨g,cap,I,rfl,h2,h3,h4,h5,h6,h7⟩;·exact Or.inl ⟨rfl,Am.1 h2⟩
 ·refine Or.inr ⟨g,cap,I.toList.drop xs.length,rfl,h2,⟨?_,by simp⟩,h4,h5,by simp;omega⟩;show w.heap[g]?=_;rw[h3];have:I=rowC xs.toArray (I.toList.drop xs.length):=by unfold rowC;apply DV;rw[Ca] at h7;show I.toList=List.map (Value.int .u64) xs.toArray.toList++_;simp only[<- h7];exact(CR _ _).symm
  exact congrArg (fun c=>some (Obj.cells c 51 (0,0))) this
theorem z6b {w:World} {base:Nat} {v:Value} {xs:List Int} (h:w.ownsRow base 51 1 v xs.length (xs.map (Value.int .u64))) (hn:xs.length<=1000000000):
  Calls Tryz.prog 133 #[v] w fun e w'=>(∃r,e= .returned r)/\ ∃ys:List Int,ys.Perm xs/\ys.Pairwise (· <= ·)/\w'.ownsRow base 51 1 v xs.length (ys.map (Value.int .u64))/\KeepsOthers w w'/\
   ((v= .slice none 0 0/\w=w')\/ ∃g n cap,v= .slice (some ⟨g,0,none⟩) n cap/\base<=g/\Only [g] w w'):=by
 rcases z9r h with⟨rfl,rfl⟩|⟨g,cap,tl,rfl,hb,hr,I,M,O⟩;·refine(x7r w).mono ?_;rintro e w' ⟨hr,rfl⟩;exact⟨hr,[],List.Perm.refl _,List.Pairwise.nil,h,KeepsOthers.refl _,Or.inl ⟨rfl,rfl⟩⟩
 ·refine(v8n g xs.length cap tl xs.toArray w hr hn).mono ?_;rintro e w' ⟨L,⟨d',h1,h2,h3⟩,ho⟩;obtain⟨s1,s2⟩:=x0q xs.toArray d' xs.length (by simp) h2 h3;have hl:d'.toList.length=xs.length:=s1.length_eq;refine⟨L,d'.toList,s1,s2,⟨by simpa using hl,Or.inr ⟨g,cap,rowC d' tl,rfl,hb,h1.blk,I,M,?_,?_⟩⟩,x3h ho hr.blk,Or.inr ⟨g,_,cap,rfl,hb,ho⟩⟩;·unfold rowC;simp at hl ⊢;omega
  ·unfold rowC;show List.take _ (List.map (Value.int .u64) d'.toList++tl)=_;rw[Ca,Cv (by rw[AO];omega),AY (by rw[AO];omega)]
end Go.Proofs.YtibiekfjbibpbaaGreat
