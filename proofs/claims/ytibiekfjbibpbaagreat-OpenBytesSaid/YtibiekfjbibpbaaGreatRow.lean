/- Laws of no program, on rows of cells: copy, append of a make, clear, whatever the elements' size; blocks known whole; frames by footprints. -/
import Derived.Test.YtibiekfjbibpbaaGreatRows
import Derived.WalkKit
import Derived.WalkSpells
import Derived.WalkLawsBesides
import Derived.Lib.AppendZeros
import Derived.Lib.Overlaps
import Derived.Laws.CopyRow
import Derived.Laws.Externs
import Derived.Deep.RegionLaw
import Derived.Deep.Draws
import Derived.Maps.AppendAt
set_option linter.unusedVariables false
namespace Go.Proofs.YtibiekfjbibpbaaGreat
open Go.RowKit
theorem hid {p:Prop} (h:p):Hid p:=h
theorem bx {a b c:World} (h:Below a.heap.size a b) (k:Below b.heap.size b c):Below a.heap.size a c:=h.trans (k.mono h.size)
theorem ba {a b:World} (h:Below a.heap.size a b) (o:Obj):Below a.heap.size a (b.alloc o):=h.alloc h.size o
theorem ck {w w':World} {p:Addr} {x:Value} (h:w.cell? p=some x) (hb:Below w.heap.size w w'):w'.cell? p=some x:=(hb.cell (World.block_lt_of_cell? w p h)).trans h
theorem ca {w:World} {p:Addr} {x:Value} (o:Obj) (h:w.cell? p=some x):(w.alloc o).cell? p=some x:=by
 rw[World.cell?_alloc_old _ _ _ (Nat.ne_of_lt (World.block_lt_of_cell? w p h))];exact h
def Blk (w:World) (g:Nat) (t:TypeId) (cs:Array Value):Prop:=w.heap[g]?=some (.cells cs t (0,0))
section
variable {w w':World} {g:Nat} {t:TypeId} {cs:Array Value}
theorem Blk.lt (h:Blk w g t cs):g<w.heap.size:=by
 rcases Nat.lt_or_ge g w.heap.size with hlt | hge
 ·exact hlt
 ·unfold Blk at h;rw[Array.getElem?_eq_none hge] at h;cases h
theorem Blk.cell (h:Blk w g t cs) (i:Nat):w.cell? ⟨g,i,none⟩=cs[i]?:=cell_of_row w g i cs t (0,0) h
theorem Blk.frozen (h:Blk w g t cs) (i:Nat):w.frozen? ⟨g,i,none⟩=false:=by
 unfold Blk at h
 simp[World.frozen?,h]
theorem Blk.new (w:World) (t:TypeId) (cs:Array Value):Blk (w.alloc (.cells cs t)) w.heap.size t cs:=heap_alloc_new w _
theorem Blk.drew (h:Blk w g t cs):Blk w.drew g t cs:=h
theorem Blk.drewN (h:Blk w g t cs) (n:Nat):Blk (w.drewN n) g t cs:=h
theorem Blk.alloc (h:Blk w g t cs) (o:Obj):Blk (w.alloc o) g t cs:=(Below.heap_alloc w o g h.lt).trans h
theorem Blk.set_ (h:Blk w g t cs) (i:Nat) (u:Value):Blk (w.setCell ⟨g,i,none⟩ u) g t (cs.setIfInBounds i u):=by
 unfold Blk at h ⊢
 simp[World.setCell,Array.getElem?_modify,h]
theorem Blk.far (h:Blk w g t cs) {p:Addr} (hp:g≠p.block) (u:Value):Blk (w.setCell p u) g t cs:=(Below.heap_setCell w p u g hp).trans h
theorem Blk.below {B:Nat} (h:Blk w g t cs) (hb:Below B w w') (hg:g<B):Blk w' g t cs:=(hb.block g hg).trans h
theorem Blk.bel (h:Blk w g t cs) (hb:Below w.heap.size w w'):Blk w' g t cs:=h.below hb h.lt
theorem Blk.grown {row:Option Nat} (h:Blk w g t cs) (hb:w.grownBy w' row) (hg:some g≠row):Blk w' g t cs:=(hb.block g h.lt hg).trans h
theorem Blk.ne_ {g':Nat} {t':TypeId} {cs':Array Value} (h:Blk w g t cs) (h':Blk w g' t' cs') (hne:t≠t'):g≠g':=by
 rintro rfl
 unfold Blk at h h'
 rw[h] at h'
 injection h' with h'
 injection h' with _ ht
 exact hne ht
theorem Blk.row (h:Blk w g t cs) (cs':Array Value):Blk (w.setRow g cs') g t cs':=setRow_heap w g cs cs' t (0,0) h
theorem Blk.rowFar (h:Blk w g t cs) {k:Nat} (hne:g≠k) (cs':Array Value):Blk (w.setRow k cs') g t cs:=(setRow_other w k g cs' hne).trans h
end
structure Only (f:List Nat) (w w':World):Prop where
 os:w'.os=w.os
 tape:w'.tape=w.tape
 output:w'.output=w.output
 size:w.heap.size≤w'.heap.size
 block: ∀k,k<w.heap.size→k∉f→w'.heap[k]?=w.heap[k]?
section
variable {f g:List Nat} {a b c w w':World}
theorem Only.refl (f:List Nat) (w:World):Only f w w:=⟨rfl,rfl,rfl,Nat.le_refl _,fun _ _ _=>rfl⟩
theorem Only.of_below (h:Below w.heap.size w w') (f:List Nat):Only f w w':=⟨h.os,h.tape,h.output,h.size,fun k hk _=>h.block k hk⟩
theorem Only.of_grown {row:Option Nat} (h:w.grownBy w' row) (hf: ∀k,row=some k→k∈f):Only f w w':=
 ⟨h.os,h.tape,h.output,h.size,fun k hk hn=>h.block k hk fun e=>hn (hf k e.symm)⟩
theorem Only.trans (h:Only f a b) (k:Only g b c) (hg: ∀x,x∈g→x∈f∨a.heap.size≤x):Only f a c:=
 ⟨k.os.trans h.os,k.tape.trans h.tape,k.output.trans h.output,Nat.le_trans h.size k.size,fun x hx hn=>
  (k.block x (Nat.lt_of_lt_of_le hx h.size) (fun hm=>by rcases hg x hm with h1 | h1;exact hn h1;omega)).trans (h.block x hx hn)⟩
theorem Only.mono (h:Only f a b) (hg: ∀x,x∈f→x∈g):Only g a b:=⟨h.os,h.tape,h.output,h.size,fun x hx hn=>h.block x hx fun hm=>hn (hg x hm)⟩
theorem Only.below {B:Nat} (h:Only f a b) (hf: ∀x,x∈f→B≤x) (hB:B≤a.heap.size):Below B a b:=
 ⟨h.os,h.tape,h.output,h.size,fun x hx=>h.block x (by omega) fun hm=>by have:=hf x hm;omega⟩
theorem Only.alloc (h:Only f a b) (o:Obj):Only f a (b.alloc o):=
 ⟨h.os,h.tape,h.output,Nat.le_trans h.size (by simp),fun x hx hn=>(Below.heap_alloc b o x (Nat.lt_of_lt_of_le hx h.size)).trans (h.block x hx hn)⟩
theorem Only.drew (h:Only f a b):Only f a b.drew:=⟨h.os,h.tape,h.output,h.size,h.block⟩
theorem Only.drewN (h:Only f a b) (n:Nat):Only f a (b.drewN n):=⟨h.os,h.tape,h.output,h.size,h.block⟩
theorem Only.setCell (h:Only f a b) {p:Addr} (hp:p.block∈f∨a.heap.size≤p.block) (u:Value):Only f a (b.setCell p u):=
 ⟨h.os,h.tape,h.output,by simpa[World.setCell] using h.size,fun x hx hn=>(Below.heap_setCell b p u x (fun e=>by subst e;rcases hp with hp | hp;exact hn hp;omega)).trans (h.block x hx hn)⟩
theorem Only.blk {x:Nat} {t:TypeId} {cs:Array Value} (h:Only f a b) (hx:Blk a x t cs) (hn:x∉f):Blk b x t cs:=(h.block x hx.lt hn).trans hx
theorem Only.cell {p:Addr} (h:Only f a b) (hp:p.block<a.heap.size) (hn:p.block∉f):b.cell? p=a.cell? p:=World.cell?_of_block (w:=a) (h.block p.block hp hn)
theorem Only.own {base:Nat} {e:TypeId} {size n:Nat} {v:Value} {xs:List Value} (h:Only f a b) (hr:a.ownsRow base e size v n xs) (hn: ∀k,v.ownBlock=some k→k∉f):b.ownsRow base e size v n xs:=by
 refine⟨hr.1,?_⟩
 rcases hr.2 with h1 | ⟨g,cap,cur,hv,hg,hh,r⟩
 ·exact Or.inl h1
 ·refine Or.inr ⟨g,cap,cur,hv,hg,?_,r⟩
  have hlt:g<a.heap.size:=Blk.lt (w:=a) (t:=e) (cs:=cur) hh
  rw[h.block g hlt (hn g (by rw[hv];rfl))];exact hh
end
section
variable {P:Program}
theorem cells_of_blk {w:World} {g:Nat} {t:TypeId} {cur:Array Value} (hg:Blk w g t cur) (off n:Nat):
  ∀j v,((cur.toList.drop off).take n)[j]?=some v→w.cell? ((⟨g,off,none⟩:Addr).add j)=some v:=by
 intro j v hj
 have hadd:(⟨g,off,none⟩:Addr).add j=⟨g,off+j,none⟩:=by unfold Addr.add;split<;>simp_all
 rw[hadd,hg.cell]
 rw[List.getElem?_take] at hj
 split at hj
 ·rw[List.getElem?_drop] at hj;simpa using hj
 ·cases hj
theorem run_copy_rowN (w:World) (dT sT ty elem:TypeId) (sz:Nat) (g o dLen dCap:Nat) (a:Addr) (sLen sCap:Nat) (cur:Array Value) (t:TypeId) (cs:List Value)
  (hu:P.underlying dT=some (.slice elem)) (hs:(P.info? elem).map (·.size)=some sz)
  (hg:w.heap[g]?=some (.cells cur t (0,0))) (hn:cs.length=Nat.min sLen dLen*sz)
  (hsrc: ∀j v,cs[j]?=some v→w.cell? (a.add j)=some v) (hfit:o+cs.length≤cur.size) (h1: ∀v∈cs,v.oneCell'=true):
  (Builtin.copy_ #[dT,sT] ty #[.slice (some ⟨g,o,none⟩) dLen dCap,.slice (some a) sLen sCap]).run P w=
   .ok (goInt (Nat.min sLen dLen)) (w.setRow g (cur.toList.take o++cs++cur.toList.drop (o+cs.length)).toArray):=by
 have hl:=run_loadCells_list (P:=P) w a cs hsrc
 have hst:=run_storeCells_at P g o t cs 0 cur w hg (by simpa using hfit) h1
 cases hq:P.info? elem with
 | none=>simp[hq] at hs
 | some i=>
  have hi:i.size=sz:=by simpa[hq] using hs
  rw[hn] at hl
  simp[Builtin.copy_,run_underlying hu,Builtin.lenOf,Builtin.firstCells,sizeOf,typeInfo,hq,hi,hl,hst]
theorem wp_copy_runI (w:World) {o:Oper} {a:Act} {K:Act→World→Prop} {Q:Exit→Act→World→Prop} (d s:Operand) (t t':TypeId)
  (ho:o.op= .call { callee:= .builtin .copy,args:= #[d,s],argTypes:= #[t,t'] }) (v u:Value) (hd:a.eval d=v) (hs:a.eval s=u) {v':Value} {w':World}
  (hr:(Builtin.copy_ #[t,t'] o.type #[v,u]).run P w= .ok v' w') (h:K (a.put o.dst v') w'):o.wp P a w K Q:=by
 unfold Oper.wp execOp
 simp only[ho,resolve,invoke,builtin,Sem.run_bind,Sem.run_pure,Result.andThen_ok,List.map_toArray,List.map_cons,List.map_nil,hd,hs,hr]
 exact h
theorem wpList_copy_runI (w:World) {ops:Array Oper} {rest:List Oper} {o:Oper} {a:Act} {Q:Exit→Act→World→Prop} (hgd:o.guard=none) (d s:Operand) (t t':TypeId)
  (ho:o.op= .call { callee:= .builtin .copy,args:= #[d,s],argTypes:= #[t,t'] }) (v u:Value) (hd:a.eval d=v) (hs:a.eval s=u) {v':Value} {w':World}
  (hr:(Builtin.copy_ #[t,t'] o.type #[v,u]).run P w= .ok v' w') (h:wpList P ops Q rest (a.put o.dst v') w'):wpList P ops Q (o::rest) a w:=
 wpList_plain hgd fun _ hK=>wp_copy_runI w d s t t' ho v u hd hs hr (hK _ _ h)
theorem step_copy_runI {ops:Array Oper} {o:Oper} {a:Act} {w:World} {K:Act→World→Prop} {Q:Exit→Act→World→Prop} {E:Prop}
  (hg:o.guard=none) (d x:Operand) (dT sT:TypeId) (hop:o.op=Op.call { callee:=Callee.builtin Builtin.copy,args:= #[d,x],argTypes:= #[dT,sT] })
  (v u:Value) (hd:a.eval d=v) (hx:a.eval x=u) {v':Value} {w':World} (hr:(Builtin.copy_ #[dT,sT] o.type #[v,u]).run P w= .ok v' w') (hK:K (a.put o.dst v') w'):
  if Region.wanted o (yielded ops a.tmps)=true then Oper.wp P o a w K Q else E:=by
 have hw:Region.wanted o (yielded ops a.tmps)=true:=by simp[Region.wanted,hg]
 rw[if_pos hw]
 unfold Oper.wp
 simp[execOp,hop,resolve,invoke,builtin,hd,hx,hr,Result.andThen]
 exact hK
theorem step_append_runI {ops:Array Oper} {o:Oper} {a:Act} {w:World} {K:Act→World→Prop} {Q:Exit→Act→World→Prop} {E:Prop}
  (hg:o.guard=none) (d x:Operand) (dT sT:TypeId) (hop:o.op=Op.call { callee:=Callee.builtin Builtin.append,args:= #[d,x],argTypes:= #[dT,sT] })
  (v u:Value) (hd:a.eval d=v) (hx:a.eval x=u) {v':Value} {w':World} (hr:(Builtin.append_ #[dT,sT] o.type #[v,u]).run P w= .ok v' w') (hK:K (a.put o.dst v') w'):
  if Region.wanted o (yielded ops a.tmps)=true then Oper.wp P o a w K Q else E:=by
 have hw:Region.wanted o (yielded ops a.tmps)=true:=by simp[Region.wanted,hg]
 rw[if_pos hw]
 unfold Oper.wp
 simp[execOp,hop,resolve,invoke,builtin,hd,hx,hr,Result.andThen]
 exact hK
theorem run_append_zeros_grow (w:World) (t tn ty e:TypeId) (i:TypeInfo) (z:Value) (k0 kn:IntKind) (ht:P.underlying t=some (.slice e)) (htn:P.underlying tn=some (.int kn)) (hi:P.info? e=some i) (hz:i.zero=some z)
  (a:Addr) (n cap k:Nat) (old:List Value) (hl:old.length=n*i.size) (hold: ∀j v,old[j]?=some v→w.cell? (a.add j)=some v) (h0:0<k) (hs:0<i.size) (hroom:cap<n+k) (h63:n+k≤maxLen) (h48:(n+k)*i.bytes≤140737488355328):
  (Builtin.append_ #[t,tn] ty #[.slice (some a) n cap,.int k0 k]).run P w=
   .ok (.slice (some ⟨w.heap.size,0,none⟩) (n+k) (grownCap w (n+k) cap e)) (w.drew.alloc (.cells (old.toArray++Builtin.zeroCells z.cells k++Builtin.zeroCells z.cells (grownCap w (n+k) cap e- (n+k))) e)):=by
 have hn:k≠0:=by omega
 unfold maxLen at h63
 have hw:IntKind.i64.wrap (k:Int)=k:=by rw[IntKind.wrap_i64];omega
 have h63': ¬(9223372036854775807< (n:Int)+(k:Int)):=by omega
 have h2:=nextslicecap_le (need:=n+k) (old:=cap) hroom
 have h48': ¬(281474976710656<Builtin.nextslicecap (n+k) cap*i.bytes):=by
  have:=Nat.mul_le_mul_right i.bytes h2
  rw[Nat.mul_assoc] at this
  omega
 have h48i: ¬(281474976710656< (k:Int)*(i.bytes:Int)):=by
  rw[←Int.natCast_mul]
  have:=Nat.mul_le_mul_right i.bytes (show k≤n+k by omega)
  omega
 have hneg: ¬((k:Int)<0):=by omega
 have hns: ¬(k*i.size=0):=Nat.mul_ne_zero hn (by omega)
 have hlt: ¬(n+k≤cap):=by omega
 have hld:=run_loadCells_list (P:=P) w.drew a old hold
 rw[hl] at hld
 simp[Builtin.append_,run_underlying ht,run_underlying htn,sizeOf,typeInfo,zeroValue,hi,hz,asInt,asIntOf,hw,hneg,hns,h48',h48i,hlt,Question.forced,Builtin.firstCells,hld,newRow,grownCap,h63']
theorem run_clear_row (w:World) (t ty e:TypeId) (i:TypeInfo) (z:Value) (ht:P.underlying t=some (.slice e)) (hi:P.info? e=some i) (hz:i.zero=some z)
  (g o n c:Nat) (cur:Array Value) (u:TypeId) (hg:Blk w g u cur) (hfit:o+(Builtin.zeroCells z.cells n).size≤cur.size) (h1: ∀v∈(Builtin.zeroCells z.cells n).toList,v.oneCell'=true):
  (Builtin.clear_ #[t] ty #[.slice (some ⟨g,o,none⟩) n c]).run P w=
   .ok (.tuple #[]) (w.setRow g (cur.toList.take o++(Builtin.zeroCells z.cells n).toList++cur.toList.drop (o+(Builtin.zeroCells z.cells n).toList.length)).toArray):=by
 have hst:=run_storeCells_at P g o u (Builtin.zeroCells z.cells n).toList 0 cur w hg (by simpa using hfit) h1
 cases n with
 | zero=>
  have hz0:(Builtin.zeroCells z.cells 0).toList=[]:=by simp[Builtin.zeroCells]
  rw[hz0]
  simp only[List.append_nil,List.length_nil,Nat.add_zero,List.take_append_drop,Array.toArray_toList]
  rw[setRow_self w g cur u (0,0) hg]
  simp[Builtin.clear_,run_underlying ht]
 | succ n=>
  simp only[Nat.add_zero] at hst
  simp[Builtin.clear_,run_underlying ht,zeroValue,typeInfo,hi,hz,hst]
end
end Go.Proofs.YtibiekfjbibpbaaGreat
