import Derived.Test.YtjmaicckkkdjpaaGreatRows
import Derived.WalkKit
import Derived.WalkSpells
import Derived.WalkLawsBesides
import Derived.Lib.AppendZeros
import Derived.Lib.Overlaps
import Derived.Laws.CopyRow
import Derived.Laws.Externs
import Derived.Deep.RegionLaw
import Derived.Deep.Draws
import Derived.Maps.AppendAt
/- Laws of no program, on rows of cells: copy, append of a make, clear, whatever the elements' size; blocks known whole; frames by footprints. -/
set_option linter.unusedVariables false
namespace Go.Proofs.YtjmaicckkkdjpaaGreat
open Go.RowKit
theorem hid {p:Prop} (h:p):Hid p:=h
theorem bx {a b c:World} (h:Below a.heap.size a b) (k:Below b.heap.size b c):Below a.heap.size a c:=h.trans (k.mono h.size)
theorem ba {a b:World} (h:Below a.heap.size a b) (o:Obj):Below a.heap.size a (b.alloc o):=h.alloc h.size o
theorem ck {w w':World} {p:Addr} {x:Value} (h:w.cell? p=some x) (hb:Below w.heap.size w w'):w'.cell? p=some x:=(hb.cell (World.block_lt_of_cell? w p h)).trans h
theorem ca {w:World} {p:Addr} {x:Value} (o:Obj) (h:w.cell? p=some x):(w.alloc o).cell? p=some x:=by
 rw[World.cell?_alloc_old _ _ _ (Nat.ne_of_lt (World.block_lt_of_cell? w p h))];exact h
def Blk (w:World) (g:Nat) (t:TypeId) (cs:Array Value):Prop:=w.heap[g]?=some (.cells cs t (0,0))
section
variable {w w':World} {g:Nat} {t:TypeId} {cs:Array Value}
theorem Blk.lt (h:Blk w g t cs):g<w.heap.size:=by
 rcases Nat.lt_or_ge g w.heap.size with hlt | hge
 ·exact hlt
 ·unfold Blk at h;rw[Array.getElem?_eq_none hge] at h;cases h
theorem Blk.cell (h:Blk w g t cs) (i:Nat):w.cell? ⟨g,i,none⟩=cs[i]?:=cell_of_row w g i cs t (0,0) h
theorem Blk.frozen (h:Blk w g t cs) (i:Nat):w.frozen? ⟨g,i,none⟩=false:=by
 unfold Blk at h
 simp[World.frozen?,h]
theorem Blk.new (w:World) (t:TypeId) (cs:Array Value):Blk (w.alloc (.cells cs t)) w.heap.size t cs:=heap_alloc_new w _
theorem Blk.drew (h:Blk w g t cs):Blk w.drew g t cs:=h
theorem Blk.drewN (h:Blk w g t cs) (n:Nat):Blk (w.drewN n) g t cs:=h
theorem Blk.alloc (h:Blk w g t cs) (o:Obj):Blk (w.alloc o) g t cs:=(Below.heap_alloc w o g h.lt).trans h
theorem Blk.set_ (h:Blk w g t cs) (i:Nat) (u:Value):Blk (w.setCell ⟨g,i,none⟩ u) g t (cs.setIfInBounds i u):=by
 unfold Blk at h ⊢
 simp[World.setCell,Array.getElem?_modify,h]
theorem Blk.below {B:Nat} (h:Blk w g t cs) (hb:Below B w w') (hg:g<B):Blk w' g t cs:=(hb.block g hg).trans h
theorem Blk.bel (h:Blk w g t cs) (hb:Below w.heap.size w w'):Blk w' g t cs:=h.below hb h.lt
theorem Blk.grown {row:Option Nat} (h:Blk w g t cs) (hb:w.grownBy w' row) (hg:some g≠row):Blk w' g t cs:=(hb.block g h.lt hg).trans h
theorem Blk.ne_ {g':Nat} {t':TypeId} {cs':Array Value} (h:Blk w g t cs) (h':Blk w g' t' cs') (hne:t≠t'):g≠g':=by
 rintro rfl
 unfold Blk at h h'
 rw[h] at h'
 injection h' with h'
 injection h' with _ ht
 exact hne ht
end
structure Only (f:List Nat) (w w':World):Prop where
 os:w'.os=w.os
 tape:w'.tape=w.tape
 output:w'.output=w.output
 size:w.heap.size≤w'.heap.size
 block: ∀k,k<w.heap.size→k∉f→w'.heap[k]?=w.heap[k]?
section
variable {f g:List Nat} {a b c w w':World}
theorem Only.refl (f:List Nat) (w:World):Only f w w:=⟨rfl,rfl,rfl,Nat.le_refl _,fun _ _ _=>rfl⟩
theorem Only.of_below (h:Below w.heap.size w w') (f:List Nat):Only f w w':=⟨h.os,h.tape,h.output,h.size,fun k hk _=>h.block k hk⟩
theorem Only.of_grown {row:Option Nat} (h:w.grownBy w' row) (hf: ∀k,row=some k→k∈f):Only f w w':=
 ⟨h.os,h.tape,h.output,h.size,fun k hk hn=>h.block k hk fun e=>hn (hf k e.symm)⟩
theorem Only.trans (h:Only f a b) (k:Only g b c) (hg: ∀x,x∈g→x∈f∨a.heap.size≤x):Only f a c:=
 ⟨k.os.trans h.os,k.tape.trans h.tape,k.output.trans h.output,Nat.le_trans h.size k.size,fun x hx hn=>
  (k.block x (Nat.lt_of_lt_of_le hx h.size) (fun hm=>by rcases hg x hm with h1 | h1;exact hn h1;omega)).trans (h.block x hx hn)⟩
theorem Only.mono (h:Only f a b) (hg: ∀x,x∈f→x∈g):Only g a b:=⟨h.os,h.tape,h.output,h.size,fun x hx hn=>h.block x hx fun hm=>hn (hg x hm)⟩
theorem Only.below {B:Nat} (h:Only f a b) (hf: ∀x,x∈f→B≤x) (hB:B≤a.heap.size):Below B a b:=
 ⟨h.os,h.tape,h.output,h.size,fun x hx=>h.block x (by omega) fun hm=>by have:=hf x hm;omega⟩
theorem Only.alloc (h:Only f a b) (o:Obj):Only f a (b.alloc o):=
 ⟨h.os,h.tape,h.output,Nat.le_trans h.size (by simp),fun x hx hn=>(Below.heap_alloc b o x (Nat.lt_of_lt_of_le hx h.size)).trans (h.block x hx hn)⟩
theorem Only.drew (h:Only f a b):Only f a b.drew:=⟨h.os,h.tape,h.output,h.size,h.block⟩
theorem Only.drewN (h:Only f a b) (n:Nat):Only f a (b.drewN n):=⟨h.os,h.tape,h.output,h.size,h.block⟩
theorem Only.setCell (h:Only f a b) {p:Addr} (hp:p.block∈f∨a.heap.size≤p.block) (u:Value):Only f a (b.setCell p u):=
 ⟨h.os,h.tape,h.output,by simpa[World.setCell] using h.size,fun x hx hn=>(Below.heap_setCell b p u x (fun e=>by subst e;rcases hp with hp | hp;exact hn hp;omega)).trans (h.block x hx hn)⟩
theorem Only.blk {x:Nat} {t:TypeId} {cs:Array Value} (h:Only f a b) (hx:Blk a x t cs) (hn:x∉f):Blk b x t cs:=(h.block x hx.lt hn).trans hx
theorem Only.cell {p:Addr} (h:Only f a b) (hp:p.block<a.heap.size) (hn:p.block∉f):b.cell? p=a.cell? p:=World.cell?_of_block (w:=a) (h.block p.block hp hn)
theorem Only.own {base:Nat} {e:TypeId} {size n:Nat} {v:Value} {xs:List Value} (h:Only f a b) (hr:a.ownsRow base e size v n xs) (hn: ∀k,v.ownBlock=some k→k∉f):b.ownsRow base e size v n xs:=by
 refine⟨hr.1,?_⟩
 rcases hr.2 with h1 | ⟨g,cap,cur,hv,hg,hh,r⟩
 ·exact Or.inl h1
 ·refine Or.inr ⟨g,cap,cur,hv,hg,?_,r⟩
  have hlt:g<a.heap.size:=Blk.lt (w:=a) (t:=e) (cs:=cur) hh
  rw[h.block g hlt (hn g (by rw[hv];rfl))];exact hh
end
section
variable {P:Program}
theorem cells_of_blk {w:World} {g:Nat} {t:TypeId} {cur:Array Value} (hg:Blk w g t cur) (off n:Nat):
  ∀j v,((cur.toList.drop off).take n)[j]?=some v→w.cell? ((⟨g,off,none⟩:Addr).add j)=some v:=by
 intro j v hj
 have hadd:(⟨g,off,none⟩:Addr).add j=⟨g,off+j,none⟩:=by unfold Addr.add;split<;>simp_all
 rw[hadd,hg.cell]
 rw[List.getElem?_take] at hj
 split at hj
 ·rw[List.getElem?_drop] at hj;simpa using hj
 ·cases hj
theorem step_append_runI {ops:Array Oper} {o:Oper} {a:Act} {w:World} {K:Act→World→Prop} {Q:Exit→Act→World→Prop} {E:Prop}
  (hg:o.guard=none) (d x:Operand) (dT sT:TypeId) (hop:o.op=Op.call { callee:=Callee.builtin Builtin.append,args:= #[d,x],argTypes:= #[dT,sT] })
  (v u:Value) (hd:a.eval d=v) (hx:a.eval x=u) {v':Value} {w':World} (hr:(Builtin.append_ #[dT,sT] o.type #[v,u]).run P w= .ok v' w') (hK:K (a.put o.dst v') w'):
  if Region.wanted o (yielded ops a.tmps)=true then Oper.wp P o a w K Q else E:=by
 have hw:Region.wanted o (yielded ops a.tmps)=true:=by simp[Region.wanted,hg]
 rw[if_pos hw]
 unfold Oper.wp
 simp[execOp,hop,resolve,invoke,builtin,hd,hx,hr,Result.andThen]
 exact hK
end
end Go.Proofs.YtjmaicckkkdjpaaGreat
