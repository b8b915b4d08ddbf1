/- A slice of numbers that was handed in. -/
import Derived.Test.YtibiekfjbibpbaaGreatRow
import Derived.Maps.AppendAt
import Derived.Test.YtibiekfjbibpbaaGreatChunk
import Derived.Maps.RangeRun
import Derived.RangeFuncSeq
set_option linter.unusedVariables false
set_option linter.unusedSimpArgs false
namespace Go.Proofs.YtibiekfjbibpbaaGreat
open Go.RowKit
structure IntsAt (k:IntKind) (w:World) (v:Value) (xs:List Int):Prop where
 at_: ∃ao cap,v= .slice ao xs.length cap∧(xs=[]∨ ∃b off,ao=some ⟨b,off,none⟩∧b<w.heap.size∧ ∀i (h:i<xs.length),w.cell? ⟨b,off+i,none⟩=some (.int k xs[i]))
 le: ∀x∈xs,(Lit.int k x).wf=true
theorem IntsAt.bel {k:IntKind} {w w':World} {v:Value} {xs:List Int} (h:IntsAt k w v xs) (hb:Below w.heap.size w w'):IntsAt k w' v xs:=by
 obtain⟨ao,cap,h1,h2⟩:=h.at_
 refine⟨⟨ao,cap,h1,?_⟩,h.le⟩
 rcases h2 with h2 | ⟨b,off,h3,h4,h5⟩
 ·exact Or.inl h2
 ·exact Or.inr ⟨b,off,h3,Nat.lt_of_lt_of_le h4 hb.size,fun i hi=>(hb.cell (p:=⟨b,off+i,none⟩) h4).trans (h5 i hi)⟩
def appRun2 (P:Program) (ats:Array TypeId) (ty:TypeId) (args:Array Value) (w:World):Result Value:=(Builtin.append_ ats ty args).run P w
def appM2 (ats:Array TypeId) (ty:TypeId) (args:Array Value):Sem Value:=Builtin.append_ ats ty args
theorem append_shut2 (ats:Array TypeId) (ty:TypeId) (cs:Array Bool) (args:Array Value):builtin .append ats ty cs args=(do pure (.value (←appM2 ats ty args))):=rfl
theorem appM2_run (P:Program) (ats:Array TypeId) (ty:TypeId) (args:Array Value) (w:World):(appM2 ats ty args).run P w=appRun2 P ats ty args w:=rfl
def NewsAt (w:World) (x:Value) (m:Nat) (news:List Value):Prop:=
 (x= .slice none 0 0∧m=0∧news=[])∨ ∃b off c,x= .slice (some ⟨b,off,none⟩) m c∧ ∀j u,news[j]?=some u→w.cell? ⟨b,off+j,none⟩=some u
theorem NewsAt.bel {w w':World} {x:Value} {m:Nat} {news:List Value} (h:NewsAt w x m news) (hb:Below w.heap.size w w'):NewsAt w' x m news:=by
 rcases h with h | ⟨b,off,c,h1,h2⟩
 ·exact Or.inl h
 ·exact Or.inr ⟨b,off,c,h1,fun j u hj=>(hb.cell (p:=⟨b,off+j,none⟩) (World.block_lt_of_cell? w _ (h2 j u hj))).trans (h2 j u hj)⟩
structure AppTo (P:Program) (t ty e:TypeId) (size base:Nat) (v x:Value) (n:Nat) (xs:List Value) (w:World) (v':Value) (w':World):Prop where
 run:appRun2 P #[t,t] ty #[v,x] w= .ok v' w'
 own:w'.ownsRow base e size v' n xs
 grown:w.grownBy w' v.ownBlock
 ob:v'.ownBlock=v.ownBlock∨v'.ownBlock=some w.heap.size
theorem run_app {P:Program} (w:World) (base:Nat) (t ty e:TypeId) (i:TypeInfo) (z:Value) (size bytes:Nat) (ht:P.underlying t=some (.slice e)) (hi:P.info? e=some i) (hz:i.zero=some z)
  (hsize:i.size=size) (hby:i.bytes=bytes) (hzs:z.cells.size=size) (hsz:0<size) (v:Value) (n:Nat) (xs:List Value) (hown:w.ownsRow base e size v n xs)
  (x:Value) (m:Nat) (news:List Value) (hx:NewsAt w x m news) (hl:news.length=m*size) (h1: ∀u∈news,u.oneCell'=true)
  (h63:n+m≤maxLen) (hbytes:(n+m)*bytes≤140737488355328) (hbase:base≤w.heap.size):
  ∃v' w',AppTo P t ty e size base v x (n+m) (xs++news) w v' w':=by
 rcases hx with⟨rfl,rfl,rfl⟩ | ⟨b,off,c,rfl,hc⟩
 ·have hr:=run_append_owned_none (P:=P) (w:=w) base t ty e i size ht hi v n xs hown
  refine⟨v,w,hr,by simpa using hown,⟨rfl,rfl,rfl,Nat.le_refl _,fun _ _ _=>rfl⟩,Or.inl rfl⟩
 ·obtain⟨v',w',hr,h2,h3,h4,h5⟩:=run_append_own_at (P:=P) w base t ty e i z size bytes ht hi hz hsize hby hzs hsz v n xs hown ⟨b,off,none⟩ m c news hl (fun j u hj=>by
   have hadd:(⟨b,off,none⟩:Addr).add j=⟨b,off+j,none⟩:=by unfold Addr.add;split<;>simp_all
   rw[hadd];exact hc j u hj) h1 h63 hbytes hbase
  exact⟨v',w',hr,h2,h3,h5⟩
def NumsAt (k:IntKind) (w:World) (v:Value) (xs:List Int):Prop:=
 ∃ao cap,v= .slice ao xs.length cap∧(xs=[]∨ ∃b off,ao=some ⟨b,off,none⟩∧b<w.heap.size∧ ∀i x,xs[i]?=some x→w.cell? ⟨b,off+i,none⟩=some (.int k x))
theorem NumsAt.bel {k:IntKind} {w w':World} {v:Value} {xs:List Int} (h:NumsAt k w v xs) (hb:Below w.heap.size w w'):NumsAt k w' v xs:=by
 obtain⟨ao,cap,h1,h2⟩:=h
 refine⟨ao,cap,h1,?_⟩
 rcases h2 with h2 | ⟨b,off,h3,h4,h5⟩
 ·exact Or.inl h2
 ·exact Or.inr ⟨b,off,h3,Nat.lt_of_lt_of_le h4 hb.size,fun i x hi=>(hb.cell (p:=⟨b,off+i,none⟩) h4).trans (h5 i x hi)⟩
theorem IntsAt.nums {k:IntKind} {w:World} {v:Value} {xs:List Int} (h:IntsAt k w v xs):NumsAt k w v xs:=by
 obtain⟨ao,cap,h1,h2⟩:=h.at_
 refine⟨ao,cap,h1,?_⟩
 rcases h2 with h2 | ⟨b,off,h3,h4,h5⟩
 ·exact Or.inl h2
 ·refine Or.inr ⟨b,off,h3,h4,fun i x hi=> ?_⟩
  obtain⟨hl,rfl⟩:=List.getElem?_eq_some_iff.1 hi
  exact h5 i hl
theorem NumsAt.of_own {k:IntKind} {w:World} {base:Nat} {e:TypeId} {v:Value} {xs:List Int} (h:w.ownsRow base e 1 v xs.length (xs.map (Value.int k))):NumsAt k w v xs:=by
 rcases h.2 with⟨rfl,h2⟩ | ⟨g,cap,cur,rfl,h2,h3,h4,h5,h6,h7⟩
 ·exact⟨none,0,by rw[h2],Or.inl (List.length_eq_zero_iff.1 h2)⟩
 ·refine⟨some ⟨g,0,none⟩,cap,rfl,Or.inr ⟨g,0,rfl,(Array.getElem?_eq_some_iff.1 h3).1,fun i x hi=> ?_⟩⟩
  have hl:i<xs.length:=(List.getElem?_eq_some_iff.1 hi).1
  have hc:Blk w g e cur:=h3
  rw[hc.cell,Nat.zero_add,←Array.getElem?_toList]
  have:(cur.toList.take (xs.length*1))[i]?=some (.int k x):=by rw[h7,List.getElem?_map,hi];rfl
  rw[List.getElem?_take,if_pos (by omega)] at this
  exact this
theorem NumsAt.form {k:IntKind} {w:World} {v:Value} {xs:List Int} (h:NumsAt k w v xs): ∃ao cap,v= .slice ao xs.length cap:=by
 obtain⟨ao,cap,h1,_⟩:=h
 exact⟨ao,cap,h1⟩
section
section
variable {α:Type}
def gotM (f:MapEntry→Option α) (es:List MapEntry) (seen:Array Nat):List α:=(es.filter fun e=>seen.contains e.born).filterMap f
theorem gotM_none (f:MapEntry→Option α) (es:List MapEntry):gotM f es #[]=[]:=by
 unfold gotM
 rw[List.filter_eq_nil_iff.2 (by simp)];rfl
theorem has_push (seen:Array Nat) (b x:Nat):(seen.push b).contains x=(seen.contains x || x==b):=by
 rw[Array.contains_push]
theorem gotM_push (f:MapEntry→Option α) {es:List MapEntry} {e:MapEntry} {seen:Array Nat} (hn:(es.map (·.born)).Nodup) (he:e∈es) (hs:seen.contains e.born=false):
  (gotM f es (seen.push e.born)).Perm (gotM f es seen++(f e).toList):=by
 obtain⟨l1,l2,rfl⟩:=List.append_of_mem he
 rw[List.map_append,List.map_cons,List.nodup_append] at hn
 obtain⟨h1,h2,h3⟩:=hn
 rw[List.nodup_cons] at h2
 have c1:l1.filter (fun x=>(seen.push e.born).contains x.born)=l1.filter (fun x=>seen.contains x.born):=by
  refine List.filter_congr fun x hx=> ?_
  have:x.born≠e.born:=h3 _ (List.mem_map.2 ⟨x,hx,rfl⟩) _ (List.mem_cons_self ..)
  rw[has_push];simp[this]
 have c2:l2.filter (fun x=>(seen.push e.born).contains x.born)=l2.filter (fun x=>seen.contains x.born):=by
  refine List.filter_congr fun x hx=> ?_
  have:x.born≠e.born:=fun h=>h2.1 (h▸List.mem_map.2 ⟨x,hx,rfl⟩)
  rw[has_push];simp[this]
 have c3:(seen.push e.born).contains e.born=true:=by rw[has_push];simp
 unfold gotM
 rw[List.filter_append,List.filter_append,List.filter_cons,List.filter_cons,c1,c2]
 simp only[c3,hs,if_true,if_false,Bool.false_eq_true,List.filterMap_append,List.filterMap_cons]
 cases f e with
 | none=>simp
 | some v=>
  simp only[Option.toList,List.append_assoc]
  refine List.Perm.append_left _ ?_
  exact(List.perm_append_singleton v _).symm
theorem gotM_all (f:MapEntry→Option α) (es:Array MapEntry) (seen:Array Nat) (h:(leftOf es seen).size=0):gotM f es.toList seen=es.toList.filterMap f:=by
 unfold gotM
 rw[List.filter_eq_self.2 (all_seen es seen h)]
theorem gotM_len (f:MapEntry→Option α) (es:List MapEntry) (seen:Array Nat):(gotM f es seen).length≤es.length:=
 Nat.le_trans (List.length_filterMap_le ..) (List.length_filter_le ..)
theorem gotM_lt (f:MapEntry→Option α) {es:List MapEntry} {e:MapEntry} {seen:Array Nat} (hn:(es.map (·.born)).Nodup) (he:e∈es) (hs:seen.contains e.born=false) (hf:(f e).isSome):(gotM f es seen).length<es.length:=by
 have h1:=(gotM_push f hn he hs).length_eq
 have h2:=gotM_len f es (seen.push e.born)
 rw[List.length_append] at h1
 cases hv:f e with
 | none=>rw[hv] at hf;cases hf
 | some v=>rw[hv] at h1;simp at h1;omega
end
structure KeepM (F:List Nat) (N0:Nat) (A B:World):Prop where
 keep:KeepN F N0 A B
 walks:KeepsWalks A B
section
variable {F:List Nat} {N0:Nat} {A B C:World}
theorem KeepM.refl (F:List Nat) (N0:Nat) (A:World):KeepM F N0 A A:=⟨KeepN.refl _ _ _,KeepsWalks.refl _⟩
theorem KeepM.trans (h:KeepM F N0 A B) (k:KeepM F N0 B C):KeepM F N0 A C:=⟨h.keep.trans k.keep,h.walks.trans k.walks⟩
theorem KeepM.putObj {l:Nat} {o o':Obj} (hl:A.heap[l]?=some o) (hw:o.isWalk=false) (hN:N0≤l):KeepM F N0 A (A.putObj l o'):=⟨(KeepN.refl F N0 A).putObj hN o',KeepsWalks.putObj o' hl hw⟩
end
end
end Go.Proofs.YtibiekfjbibpbaaGreat
