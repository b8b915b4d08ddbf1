import Derived.Test.YtjmaicckkkdjpaaGreatS36
/- Rows of addresses: their length, two held against one another, two swapped. -/
set_option maxRecDepth 100000
set_option maxHeartbeats 1000000
set_option linter.unusedVariables false
set_option linter.unusedSimpArgs false
namespace Go.Proofs.YtjmaicckkkdjpaaGreat
open Go.RowKit
def AddrRow (w:World) (g cap:Nat) (xs:List Int):Prop:= ∃cur:Array Value,Blk w g 62 cur∧xs.length≤cap∧(cap=cur.size∧cap≤maxLen)∧ ∀(i:Nat) (x:Int),xs[i]?=some x→cur[i]?=some (Value.int .u64 x)
theorem AddrRow.cell {w:World} {g cap:Nat} {xs:List Int} (h:AddrRow w g cap xs) {i:Nat} {x:Int} (hx:xs[i]?=some x):w.cell? ⟨g,i,none⟩=some (.int .u64 x):=by
 obtain⟨cur,h1,_,_,h2⟩:=h
 rw[h1.cell];exact h2 i x hx
theorem AddrRow.frozen {w:World} {g cap:Nat} {xs:List Int} (h:AddrRow w g cap xs) (i:Nat):w.frozen? ⟨g,i,none⟩=false:=by
 obtain⟨cur,h1,_⟩:=h
 exact h1.frozen i
theorem AddrRow.only {f:List Nat} {w w':World} {g cap:Nat} {xs:List Int} (h:AddrRow w g cap xs) (ho:Only f w w') (hg:g∉f):AddrRow w' g cap xs:=by
 obtain⟨cur,h1,h2⟩:=h
 exact⟨cur,ho.blk h1 hg,h2⟩
theorem AddrRow.set_ {w:World} {g cap:Nat} {xs:List Int} (h:AddrRow w g cap xs) (i:Nat) (x:Int):AddrRow (w.setCell ⟨g,i,none⟩ (.int .u64 x)) g cap (xs.set i x):=by
 obtain⟨cur,h1,h2,h3,h4⟩:=h
 refine⟨_,h1.set_ i (.int .u64 x),by simpa using h2,by simpa using h3,fun j y hy=> ?_⟩
 rw[List.getElem?_set] at hy
 rw[Array.getElem?_setIfInBounds]
 split at hy
 ·rename_i e
  subst e
  split at hy
  ·rename_i hl
   injection hy with hy;subst hy
   rw[if_pos rfl,if_pos (by rw[←h3.1];omega)]
  ·cases hy
 ·rename_i e
  rw[if_neg e];exact h4 j y hy
theorem AddrRow.drew {w:World} {g cap:Nat} {xs:List Int} (h:AddrRow w g cap xs):AddrRow w.drew g cap xs:=by
 obtain⟨cur,h1,h2⟩:=h
 exact⟨cur,h1,h2⟩
theorem AddrRow.own {w:World} {g cap:Nat} {xs:List Int} (h:AddrRow w g cap xs):w.ownsRow 0 62 1 (.slice (some ⟨g,0,none⟩) xs.length cap) xs.length (xs.map fun x=>Value.int .u64 x):=by
 obtain⟨cur,h1,h2,h3,h4⟩:=h
 refine⟨by simp,Or.inr ⟨g,cap,cur,rfl,Nat.zero_le _,h1,h2,h3.2,by rw[h3.1,Nat.mul_one],?_⟩⟩
 apply List.ext_getElem?
 intro i
 rw[Nat.mul_one,List.getElem?_take,List.getElem?_map]
 by_cases hi:i<xs.length
 ·rw[if_pos hi,List.getElem?_eq_getElem hi]
  simpa using h4 i _ (List.getElem?_eq_getElem hi)
 ·rw[if_neg hi,List.getElem?_eq_none (by omega)]
  rfl
theorem AddrRow.of_own {w:World} {base:Nat} {v:Value} {n:Nat} {xs:List Int} (h:w.ownsRow base 62 1 v n (xs.map fun x=>Value.int .u64 x)):n=xs.length∧((v= .slice none 0 0∧xs=[])∨ ∃g cap,v= .slice (some ⟨g,0,none⟩) n cap∧base≤g∧AddrRow w g cap xs):=by
 have hl:=h.1
 simp at hl
 refine⟨hl.symm,?_⟩
 rcases h.2 with⟨h1,h2⟩ | ⟨g,cap,cur,h1,h2,h3,h4,h5,h6,h7⟩
 ·exact Or.inl ⟨h1,List.eq_nil_of_length_eq_zero (by omega)⟩
 ·refine Or.inr ⟨g,cap,h1,h2,cur,h3,by omega,⟨by omega,h5⟩,fun i x hx=> ?_⟩
  have hi:=(List.getElem?_eq_some_iff.1 hx).1
  have h8:(cur.toList.take (n*1))[i]?=some (.int .u64 x):=by rw[h7,List.getElem?_map,hx];rfl
  rw[List.getElem?_take,if_pos (by omega)] at h8
  simpa using h8
theorem aLen_z (p:Option Addr) (n cap:Nat) (w:World):Calls Tryz.prog 175 #[.slice p n cap] w fun e w'=>e= .returned (.int .i64 (n:Int))∧w=w':=by
 go_enter Tryz.func175,Tryz.ntmps175
 go_wp2
 go_ret
 exact⟨rfl,rfl⟩
theorem aLess_z (g cap:Nat) (xs:List Int) (i j:Nat) (a b:Int) (ha:xs[i]?=some a) (hb:xs[j]?=some b) (w:World) (h:AddrRow w g cap xs):
  Calls Tryz.prog 230 #[.slice (some ⟨g,0,none⟩) xs.length cap,.int .i64 (i:Int),.int .i64 (j:Int)] w fun e w'=>e= .returned (.bool (decide (a<b)))∧Below w.heap.size w w':=by
 have y0:=h.drew.cell ha
 have y1:=h.drew.cell hb
 obtain⟨n,hn⟩: ∃n,n=xs.length:=⟨_,rfl⟩
 have i1:(0:Int)≤(i:Int):=by omega
 have i2:(i:Int)< (n:Int):=by have:=(List.getElem?_eq_some_iff.1 ha).1;omega
 have j1:(0:Int)≤(j:Int):=by omega
 have j2:(j:Int)< (n:Int):=by have:=(List.getElem?_eq_some_iff.1 hb).1;omega
 rw[←hn]
 clear ha hb h hn
 go_enter Tryz.func230,Tryz.ntmps230
 go_wp2
 go_region
 all_goals
  try simp only[Act.put,List.setIfInBounds_toArray,List.set_cons_zero,List.set_cons_succ]
  go_wp2
  go_ret
  first | exact⟨rfl,⟨rfl,rfl,rfl,Nat.le_refl _,fun _ _=>rfl⟩⟩ | exact⟨rfl,rfl,rfl,Nat.le_refl _,fun _ _=>rfl⟩
theorem aSwap_z (g cap:Nat) (xs:List Int) (i j:Nat) (a b:Int) (ha:xs[i]?=some a) (hb:xs[j]?=some b) (w:World) (h:AddrRow w g cap xs):
  Calls Tryz.prog 231 #[.slice (some ⟨g,0,none⟩) xs.length cap,.int .i64 (i:Int),.int .i64 (j:Int)] w fun e w'=>(∃v,e= .returned v)∧AddrRow w' g cap ((xs.set i b).set j a)∧Only [g] w w':=by
 have y0:=h.drew.cell ha
 have y1:=h.drew.cell hb
 have f0:=h.frozen i
 have f1:=h.frozen j
 obtain⟨n,hn⟩: ∃n,n=xs.length:=⟨_,rfl⟩
 have i1:(0:Int)≤(i:Int):=by omega
 have i2:(i:Int)< (n:Int):=by have:=(List.getElem?_eq_some_iff.1 ha).1;omega
 have j1:(0:Int)≤(j:Int):=by omega
 have j2:(j:Int)< (n:Int):=by have:=(List.getElem?_eq_some_iff.1 hb).1;omega
 rw[←hn]
 have hsb:(xs.set i b)[j]?=some b:=by
  rw[List.getElem?_set]
  split
  ·rename_i e;subst e;rw[if_pos (List.getElem?_eq_some_iff.1 ha).1]
  ·exact hb
 have y2:=(h.set_ i b).cell hsb
 have f2:=(h.set_ i b).frozen j
 have H:=hid ((h.set_ i b).set_ j a)
 clear ha hb h hn hsb
 go_enter Tryz.func231,Tryz.ntmps231
 go_wp2
 go_region
 all_goals
  try simp only[Act.put,List.setIfInBounds_toArray,List.set_cons_zero,List.set_cons_succ]
  go_wp2
  go_end0
  first | exact⟨⟨_,rfl⟩,H.out.drew,(((Only.refl _ _).setCell (Or.inl (by simp)) _).setCell (Or.inl (by simp)) _).drew⟩ | exact⟨H.out.drew,(((Only.refl _ _).setCell (Or.inl (by simp)) _).setCell (Or.inl (by simp)) _).drew⟩
end Go.Proofs.YtjmaicckkkdjpaaGreat
