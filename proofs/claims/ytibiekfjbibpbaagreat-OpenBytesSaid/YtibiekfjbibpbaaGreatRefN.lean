/- The document's blocks: what one is; those that are used; room; two lists compared. -/
import Derived.Test.YtibiekfjbibpbaaGreatRef5
import Derived.Test.YtibiekfjbibpbaaGreatRefW
set_option maxRecDepth 100000
set_option maxHeartbeats 1000000
set_option linter.unusedVariables false
set_option linter.unusedSimpArgs false
namespace Go.Proofs.YtibiekfjbibpbaaGreat
open Go.RowKit
theorem flatMap_two {α:Type} (f:α→List Value) (h2: ∀x,(f x).length=2): ∀(l:List α) (i:Nat) (x:α),l[i]?=some x→(l.flatMap f)[i*2]?=(f x)[0]?∧(l.flatMap f)[i*2+1]?=(f x)[1]?
 | [],i,x,h=>by simp at h
 | y::l,0,x,h=>by
  simp at h;subst h
  rw[List.flatMap_cons,List.getElem?_append_left (by rw[h2];omega),List.getElem?_append_left (by rw[h2];omega)]
  exact⟨rfl,rfl⟩
 | y::l,i+1,x,h=>by
  simp at h
  have:=flatMap_two f h2 l i x h
  rw[List.flatMap_cons,List.getElem?_append_right (by rw[h2];omega),List.getElem?_append_right (by rw[h2];omega),h2]
  rw[show(i+1)*2-2=i*2 by omega,show(i+1)*2+1-2=i*2+1 by omega]
  exact this
theorem WorldIs.blkAt {w:World} {N g:Nat} {size:Int} {cs:List Int} {ls:List (Int×Int)} {vC vL:Value} (h:WorldIs w N g size cs ls vC vL):
  (vL= .slice none 0 0∧ls=[])∨ ∃b cap,vL= .slice (some ⟨b,0,none⟩) ls.length cap∧ ∀i x,ls[i]?=some x→w.cell? ⟨b,i*2,none⟩=some (.int .u64 x.1)∧w.cell? ⟨b,i*2+1,none⟩=some (.int .i64 x.2):=by
 rcases h.rl.2 with⟨h1,h2⟩ | ⟨b,cap,cur,h1,h2,h3,h4,h5,h6,h7⟩
 ·exact Or.inl ⟨h1,List.length_eq_zero_iff.1 h2⟩
 ·refine Or.inr ⟨b,cap,h1,fun i x hi=> ?_⟩
  have hc:Blk w b _ cur:=h3
  have hl:i<ls.length:=(List.getElem?_eq_some_iff.1 hi).1
  have hf:=flatMap_two blkC (fun _=>rfl) ls i x hi
  rw[←h7,List.getElem?_take,if_pos (by omega),List.getElem?_take,if_pos (by omega)] at hf
  rw[hc.cell,hc.cell,←Array.getElem?_toList,←Array.getElem?_toList]
  exact hf
theorem WorldIs.clsAt' {w:World} {N g:Nat} {size:Int} {cs:List Int} {ls:List (Int×Int)} {vC vL:Value} (h:WorldIs w N g size cs ls vC vL):
  (vC= .slice none 0 0∧cs=[])∨ ∃b cap,vC= .slice (some ⟨b,0,none⟩) cs.length cap∧ ∀i c,cs[i]?=some c→w.cell? ⟨b,i,none⟩=some (.int .i64 c):=by
 rcases h.rc.2 with⟨h1,h2⟩ | ⟨b,cap,cur,h1,h2,h3,h4,h5,h6,h7⟩
 ·exact Or.inl ⟨h1,List.length_eq_zero_iff.1 h2⟩
 ·refine Or.inr ⟨b,cap,h1,fun i c hi=> ?_⟩
  have hc:Blk w b _ cur:=h3
  have hl:i<cs.length:=(List.getElem?_eq_some_iff.1 hi).1
  rw[hc.cell,←Array.getElem?_toList]
  have:(cur.toList.take (cs.length*1))[i]?=some (intC c):=by rw[h7,List.getElem?_map,hi];rfl
  rw[List.getElem?_take,if_pos (by omega)] at this
  exact this
theorem get_step {ls:List (Int×Int)} {a:Int} {i:Nat} {x:Int×Int} (hx:ls[i]?=some x) (hm:a∉ (ls.take i).map (·.1)):(x.1=a→isGet ls a=x.2)∧(x.1≠a→a∉ (ls.take (i+1)).map (·.1)):=by
 constructor
 ·intro e
  obtain⟨hl,hx'⟩:=List.getElem?_eq_some_iff.1 hx
  have h1:ls=ls.take i++x::ls.drop (i+1):=by
   have h3:=List.take_append_drop i ls
   rw[List.drop_eq_getElem_cons hl,hx'] at h3
   exact h3.symm
  have h2: ∀l r,a∉ (l:List (Int×Int)).map (·.1)→isGet (l++x::r) a=x.2:=by
   intro l r
   induction l with
   | nil=>intro _;show(if x.1=a then x.2 else _)=_;rw[if_pos e]
   | cons y l ih=>
    intro h
    simp at h
    show(if y.1=a then y.2 else isGet (l++x::r) a)=_
    rw[if_neg (fun e=>h.1 e.symm),ih (by simpa using h.2)]
  rw[h1]
  exact h2 _ _ hm
 ·intro hne h
  rw[List.take_add_one,hx,List.map_append,List.mem_append] at h
  rcases h with h | h
  ·exact hm h
  ·simp at h;exact hne h.symm
theorem WIs_r (N g:Nat) (size:Int) (cs:List Int) (ls:List (Int×Int)) (vC vL:Value) (a:Int) (w:World) (h:WorldIs w N g size cs ls vC vL) (hl:ls.length≤1000000000):
  Calls Tryz.prog 139 #[.pointer (some ⟨g,0,none⟩),.int .u64 a] w fun e w'=>e= .returned (.int .i64 (isGet ls a))∧w=w':=by
 have y2:w.cell? ⟨g,2,none⟩=some vL:=h.blk.cell 2
 obtain⟨n,hn⟩: ∃n,n=ls.length:=⟨_,rfl⟩
 rcases h.blkAt with⟨rfl,rfl⟩ | ⟨b,cap,rfl,hat⟩
 ·clear h hl
  go_enter Tryz.func139,Tryz.ntmps139
  go_wp2
  go_loopw [5] (fun vi wr=>vi= .int .i64 0∧w=wr) (fun vi _=>0)
  case atStart=>exact⟨rfl,rfl⟩
  case round=>
   obtain⟨rfl,rfl⟩:=hrel
   go_wp2
   go_ret
   exact⟨rfl,rfl⟩
 ·rw[←hn] at y2
  have HN:=hid hn
  have HAT:=hid hat
  have n9:n≤1000000000:=by omega
  clear hat h hl hn
  go_enter Tryz.func139,Tryz.ntmps139
  go_wp2
  go_loopw [5] (fun vi wr=> ∃i:Nat,vi= .int .i64 (i:Int)∧i≤n∧w=wr∧Hid (a∉ (ls.take i).map (·.1))) (fun vi _=>n- (intOf vi).toNat)
  case atStart=>exact⟨0,rfl,Nat.zero_le _,rfl,(by simp:a∉ (ls.take 0).map (·.1))⟩
  case round=>
   obtain⟨i,rfl,hi,rfl,hm⟩:=hrel
   have i0:(0:Int)≤(i:Int):=by omega
   by_cases hlt:i<n
   ·obtain⟨x,hx⟩: ∃x,ls[i]?=some x:=⟨_,List.getElem?_eq_getElem (by rw[←HN.out];exact hlt)⟩
    obtain⟨y3,y4⟩:=HAT.out i x hx
    have i1:(i:Int)< (n:Int):=by omega
    have HS:=hid (get_step hx hm.out)
    obtain⟨xa,xi⟩:=x
    clear hx
    by_cases he:xa=a
    ·have e1:(xa==a)=true:=by simp[he]
     have hg:=hid (HS.out.1 he)
     clear he
     go_wp2
     go_ret
     exact⟨by rw[hg.out];rfl,rfl⟩
    ·have e1:(xa==a)=false:=by simp[he]
     have hm2:=hid (HS.out.2 he)
     clear he
     go_wp2
     go_roundw
     case rel=>exact⟨i+1,by go_num,hlt,trivial,hm2⟩
     case measure=>simp[intOf];omega
   ·have i1: ¬(i:Int)< (n:Int):=by omega
    have hin:i=n:=by omega
    have hg:Hid (isGet ls a=0):=by
     have:=hm.out
     rw[hin,HN.out,List.take_length] at this
     exact isGet_not this
    clear hi hlt hin
    go_wp2
    go_ret
    exact⟨by rw[hg.out];rfl,rfl⟩
theorem Same5_r (u v:Value) (xs ys:List Int) (w:World) (hu:NumsAt .u64 w u xs) (hv:NumsAt .u64 w v ys) (hl:xs.length≤1000000000) (hk:ys.length≤1000000000):
  Calls Tryz.prog 44 #[u,v] w fun e w'=>e= .returned (.bool (decide (xs=ys)))∧Below w.heap.size w w':=by
 obtain⟨uo,ucap,rfl,hua⟩:=hu
 obtain⟨vo,vcap,rfl,hva⟩:=hv
 obtain⟨n,hn⟩: ∃n,n=xs.length:=⟨_,rfl⟩
 obtain⟨m,hm⟩: ∃m,m=ys.length:=⟨_,rfl⟩
 rw[←hn,←hm]
 have HN:=hid hn
 have HM:=hid hm
 have HU:=hid hua
 have HV:=hid hva
 have n9:n≤1000000000:=by omega
 have m9:m≤1000000000:=by omega
 clear hua hva hl hk hn hm
 by_cases hnm:n=m
 ·have e0:((n:Int) !=(m:Int))=false:=by simp[hnm]
  have HNM:=hid hnm
  clear hnm
  go_enter Tryz.func44,Tryz.ntmps44
  go_wp2
  go_loopw [5] (fun vi wr=> ∃i:Nat,vi= .int .i64 (i:Int)∧i≤n∧Hid (Below w.heap.size w wr)∧Hid (xs.take i=ys.take i)) (fun vi _=>n- (intOf vi).toNat)
  case atStart=>exact⟨0,rfl,Nat.zero_le _,Below.refl _ _,(by simp:xs.take 0=ys.take 0)⟩
  case round=>
   obtain⟨i,rfl,hi,hB,hT⟩:=hrel
   have i0:(0:Int)≤(i:Int):=by omega
   by_cases hlt:i<n
   ·have hnm:=HNM.out
    have hmlt:i<m:=by omega
    obtain⟨x,hx⟩: ∃x,xs[i]?=some x:=⟨_,List.getElem?_eq_getElem (by rw[←HN.out];exact hlt)⟩
    obtain⟨y,hy⟩: ∃y,ys[i]?=some y:=⟨_,List.getElem?_eq_getElem (by rw[←HM.out];exact hmlt)⟩
    obtain⟨b,off,rfl,hbl,hc⟩: ∃b off,uo=some ⟨b,off,none⟩∧b<w.heap.size∧ ∀i x,xs[i]?=some x→w.cell? ⟨b,off+i,none⟩=some (.int .u64 x):=by
     rcases HU.out with h0 | h0
     ·exfalso;rw[h0] at hx;simp at hx
     ·exact h0
    obtain⟨b',off',rfl,hbl',hc'⟩: ∃b off,vo=some ⟨b,off,none⟩∧b<w.heap.size∧ ∀i x,ys[i]?=some x→w.cell? ⟨b,off+i,none⟩=some (.int .u64 x):=by
     rcases HV.out with h0 | h0
     ·exfalso;rw[h0] at hy;simp at hy
     ·exact h0
    have y1:wr.cell? ⟨b,off+i,none⟩=some (.int .u64 x):=(hB.out.cell (p:=⟨b,off+i,none⟩) hbl).trans (hc i x hx)
    have y2:wr.cell? ⟨b',off'+i,none⟩=some (.int .u64 y):=(hB.out.cell (p:=⟨b',off'+i,none⟩) hbl').trans (hc' i y hy)
    have i1:(i:Int)< (n:Int):=by omega
    have i2:(i:Int)< (m:Int):=by omega
    have HX:=hid hx
    have HY:=hid hy
    clear hc hbl hc' hbl' hx hy hnm hmlt
    by_cases he:x=y
    ·have e1:(x !=y)=false:=by simp[he]
     have hT2:Hid (xs.take (i+1)=ys.take (i+1)):=by
      show xs.take (i+1)=ys.take (i+1)
      rw[List.take_add_one,List.take_add_one,hT.out,HX.out,HY.out,he]
     have hB2:=hid (hB.out.drew)
     clear he
     go_wp2
     go_region
     all_goals go_wp2
     go_roundw
     case rel=>exact⟨i+1,by go_num,hlt,hB2,hT2⟩
     case measure=>simp[intOf];omega
    ·have e1:(x !=y)=true:=by simp[he]
     have hd:Hid (decide (xs=ys)=false):=decide_eq_false (fun e=>he (by have h1:=HX.out;rw[e,HY.out] at h1;injection h1 with h1;exact h1.symm))
     have hB2:=hid (hB.out.drew)
     clear he
     go_wp2
     go_region
     all_goals go_wp2
     go_ret
     exact⟨by rw[hd.out];rfl,hB2.out⟩
   ·have i1: ¬(i:Int)< (n:Int):=by omega
    have hin:i=n:=by omega
    have hd:Hid (decide (xs=ys)=true):=by
     have:=hT.out
     have hnm:=HNM.out
     have hn:=HN.out
     have hm:=HM.out
     rw[List.take_of_length_le (by omega),List.take_of_length_le (by omega)] at this
     exact decide_eq_true this
    clear hi hlt hin
    go_wp2
    go_ret
    exact⟨by rw[hd.out];rfl,hB.out⟩
 ·have e0:((n:Int) !=(m:Int))=true:=by simp;omega
  have hd:Hid (decide (xs=ys)=false):=decide_eq_false (fun e=>hnm (by rw[HN.out,HM.out,e]))
  clear hnm
  go_enter Tryz.func44,Tryz.ntmps44
  go_wp2
  go_ret
  exact⟨by rw[hd.out];rfl,Below.refl _ _⟩
def usedL (ls:List (Int×Int)):List Int:=(ls.filter fun x=>decide (x.2=2) || decide (x.2=3)).map (·.1)
def usedI (ls:List (Int×Int)):List Int:=(usedL ls).foldl insA []
theorem usedL_add (ls:List (Int×Int)) (i:Nat) (x:Int×Int) (hx:ls[i]?=some x):usedL (ls.take (i+1))=usedL (ls.take i)++if x.2=2∨x.2=3 then[x.1] else[]:=by
 unfold usedL
 rw[List.take_add_one,hx,List.filter_append,List.map_append]
 by_cases h:x.2=2∨x.2=3
 ·rw[if_pos h]
  rcases h with h | h<;>simp[h]
 ·rw[if_neg h]
  have h1: ¬x.2=2:=fun e=>h (Or.inl e)
  have h2: ¬x.2=3:=fun e=>h (Or.inr e)
  simp[h1,h2]
theorem usedI_add (ls:List (Int×Int)) (i:Nat) (x:Int×Int) (hx:ls[i]?=some x):usedI (ls.take (i+1))=if x.2=2∨x.2=3 then insA (usedI (ls.take i)) x.1 else usedI (ls.take i):=by
 unfold usedI
 rw[usedL_add ls i x hx,List.foldl_append]
 split<;>rfl
theorem insA_len (xs:List Int) (a:Int):(insA xs a).length≤xs.length+1:=by
 unfold insA
 split
 ·omega
 ·have:=congrArg List.length (List.takeWhile_append_dropWhile (p:=fun x=>decide (x<a)) (l:=xs))
  rw[List.length_append] at this
  simp only[List.length_append,List.length_cons]
  omega
theorem usedI_len (ls:List (Int×Int)) (i:Nat):(usedI (ls.take i)).length≤i:=by
 induction i with
 | zero=>simp[usedI,usedL]
 | succ i ih=>
  by_cases h:i<ls.length
  ·rw[usedI_add ls i ls[i] (List.getElem?_eq_getElem h)]
   split
   ·have:=insA_len (usedI (ls.take i)) ls[i].1
    omega
   ·omega
  ·rw[List.take_of_length_le (by omega)]
   rw[List.take_of_length_le (by omega)] at ih
   omega
theorem WUsed_r (N g:Nat) (size:Int) (cs:List Int) (ls:List (Int×Int)) (vC vL:Value) (w:World) (h:WorldIs w N g size cs ls vC vL) (hl:ls.length≤500000) (h0: ∀x∈ls,x.1≠0):
  Calls Tryz.prog 46 #[.pointer (some ⟨g,0,none⟩)] w fun e w'=>(∃v,e= .returned v∧w'.ownsRow w.heap.size 51 1 v (usedI ls).length ((usedI ls).map (Value.int .u64)))∧Below w.heap.size w w':=by
 have y2:w.cell? ⟨g,2,none⟩=some vL:=h.blk.cell 2
 have hgl:=h.blk.lt
 obtain⟨n,hn⟩: ∃n,n=ls.length:=⟨_,rfl⟩
 obtain⟨W0,hW0⟩: ∃W0,W0=w.alloc (.cells #[.slice none 0 0] 159):=⟨_,rfl⟩
 obtain⟨s,hs⟩: ∃s,s=w.heap.size:=⟨_,rfl⟩
 have A0:Hid (AddrsIs W0 w.heap.size s (.slice none 0 0) []):=by
  rw[hW0,hs]
  exact⟨Blk.new w _ _,World.ownsRow_nil _ _ _ _,Nat.le_refl _,by simp[Value.ownBlock]⟩
 have B0:Hid (Below w.heap.size w W0):=by rw[hW0];exact ba (Below.refl _ _) _
 rcases h.blkAt with⟨rfl,rfl⟩ | ⟨b,cap,rfl,hat⟩
 ·have y3:W0.cell? ⟨g,2,none⟩=some (.slice none 0 0):=(B0.out.cell (p:=⟨g,2,none⟩) hgl).trans y2
  have y4:W0.cell? ⟨s,0,none⟩=some (.slice none 0 0):=A0.out.blk.cell 0
  clear h hl
  go_enter Tryz.func46,Tryz.ntmps46
  go_wp2
  rw[←hW0,←hs]
  clear hW0 hs
  go_loopw [4] (fun vi wr=>vi= .int .i64 0∧W0=wr) (fun vi _=>0)
  case atStart=>exact⟨rfl,rfl⟩
  case round=>
   obtain⟨rfl,rfl⟩:=hrel
   go_wp2
   go_ret
   exact⟨⟨_,rfl,A0.out.row⟩,B0.out⟩
 ·rw[←hn] at y2
  have HN:=hid hn
  have HAT:=hid (fun i x hi=>(⟨(hat i x hi).1,(hat i x hi).2,World.block_lt_of_cell? w _ (hat i x hi).1⟩:_∧_∧b<w.heap.size))
  have n9:n≤500000:=by omega
  have HG:=hid hgl
  have H0:=hid h0
  clear hat h hl hn hgl h0
  go_enter Tryz.func46,Tryz.ntmps46
  go_wp2
  rw[←hW0,←hs]
  have HS:=hid hs
  clear hW0 hs
  go_loopw [4] (fun vi wr=> ∃(i:Nat) (v:Value),vi= .int .i64 (i:Int)∧i≤n∧Hid (AddrsIs wr w.heap.size s v (usedI (ls.take i)))∧Hid (Below w.heap.size w wr)) (fun vi _=>n- (intOf vi).toNat)
  case atStart=>exact⟨0,_,rfl,Nat.zero_le _,A0,B0⟩
  case round=>
   obtain⟨i,v,rfl,hi,hA,hB⟩:=hrel
   have i0:(0:Int)≤(i:Int):=by omega
   have y5:wr.cell? ⟨g,2,none⟩=some (.slice (some ⟨b,0,none⟩) n cap):=(hB.out.cell (p:=⟨g,2,none⟩) HG.out).trans y2
   by_cases hlt:i<n
   ·obtain⟨x,hx⟩: ∃x,ls[i]?=some x:=⟨_,List.getElem?_eq_getElem (by rw[←HN.out];exact hlt)⟩
    obtain⟨z3,z4,hbl⟩:=HAT.out i x hx
    have y3:wr.cell? ⟨b,i*2,none⟩=some (.int .u64 x.1):=(hB.out.cell (p:=⟨b,i*2,none⟩) hbl).trans z3
    have y4:wr.cell? ⟨b,i*2+1,none⟩=some (.int .i64 x.2):=(hB.out.cell (p:=⟨b,i*2+1,none⟩) hbl).trans z4
    have i1:(i:Int)< (n:Int):=by omega
    have hadd:=usedI_add ls i x hx
    have hx0:=H0.out x (List.mem_of_getElem? hx)
    obtain⟨xa,xi⟩:=x
    simp only at hadd y3 y4 hx0
    clear hx z3 z4 hbl
    have put:xi=2∨xi=3→Hid (Calls Tryz.prog 72 #[.pointer (some ⟨s,0,none⟩),.int .u64 xa] wr fun e w'=>(∃r,e= .returned r)∧(∃v',AddrsIs w' w.heap.size s v' (usedI (ls.take (i+1))))∧Below w.heap.size w w'):=fun h=>by
     refine(APut_r w.heap.size s v _ xa wr hA.out hB.out.size (by have:=usedI_len ls i;omega) hx0).mono ?_
     rintro e w' ⟨hr,⟨v',h1,_⟩,h2⟩
     rw[hadd,if_pos h]
     exact⟨hr,⟨v',h1⟩,hB.out.trans (h2.below (by have:=HS.out;simp;omega) hB.out.size)⟩
    by_cases h2:xi=2
    ·have e2:(xi==2)=true:=by simp[h2]
     have hp:=put (Or.inl h2)
     clear h2 put hadd hx0
     go_wp2_with fail
     refine hp.out.mono ?_
     rintro e w5 ⟨⟨r,rfl⟩,⟨v5,hA5⟩,hB5⟩
     have HA5:=hid hA5
     have HB5:=hid hB5
     clear hA5 hB5
     go_wp2
     go_roundw
     case rel=>exact⟨i+1,v5,by go_num,hlt,HA5,HB5⟩
     case measure=>simp[intOf];omega
    ·have e2:(xi==2)=false:=by simp[h2]
     by_cases h3:xi=3
     ·have e3:(xi==3)=true:=by simp[h3]
      have hp:=put (Or.inr h3)
      clear h2 h3 put hadd hx0
      go_wp2_with fail
      refine hp.out.mono ?_
      rintro e w5 ⟨⟨r,rfl⟩,⟨v5,hA5⟩,hB5⟩
      have HA5:=hid hA5
      have HB5:=hid hB5
      clear hA5 hB5
      go_wp2
      go_roundw
      case rel=>exact⟨i+1,v5,by go_num,hlt,HA5,HB5⟩
      case measure=>simp[intOf];omega
     ·have e3:(xi==3)=false:=by simp[h3]
      rw[if_neg (by omega)] at hadd
      have HA5:Hid (AddrsIs wr w.heap.size s v (usedI (ls.take (i+1)))):=by rw[hadd];exact hA
      clear h2 h3 put hadd hx0
      go_wp2
      go_roundw
      case rel=>exact⟨i+1,v,by go_num,hlt,HA5,hB⟩
      case measure=>simp[intOf];omega
   ·have i1: ¬(i:Int)< (n:Int):=by omega
    have y6:wr.cell? ⟨s,0,none⟩=some v:=hA.out.blk.cell 0
    have hin:i=n:=by omega
    have hrow:=hA.out.row
    rw[hin,HN.out,List.take_length] at hrow
    have HR:=hid hrow
    clear hi hlt hin hrow
    go_wp2
    go_ret
    exact⟨⟨_,rfl,HR.out⟩,hB.out⟩
def roomP (cs:List Int) (ls:List (Int×Int)) (c i j:Nat):Bool:=
 decide (cs.getD i 0=0) || (decide (cs.getD i 0=(c:Int))&&decide (isGet ls (blockZ ((i:Int)+1) c j)=0))
def roomI1 (cs:List Int) (ls:List (Int×Int)) (c i k:Nat):Nat:=(List.range k).countP fun j=>roomP cs ls c i j
def roomW (cs:List Int) (ls:List (Int×Int)) (c:Nat):Nat→Nat
 | 0=>0
 | i+1=>roomW cs ls c i+roomI1 cs ls c i (nb c)
theorem roomI1_succ (cs:List Int) (ls:List (Int×Int)) (c i k:Nat):roomI1 cs ls c i (k+1)=roomI1 cs ls c i k+if roomP cs ls c i k then 1 else 0:=by
 unfold roomI1
 rw[List.range_succ,List.countP_append,List.countP_cons,List.countP_nil,Nat.zero_add]
theorem roomI1_le (cs:List Int) (ls:List (Int×Int)) (c i k:Nat):roomI1 cs ls c i k≤k:=by
 unfold roomI1
 have:=List.countP_le_length (p:=fun j=>roomP cs ls c i j) (l:=List.range k)
 rwa[List.length_range] at this
theorem roomW_le (cs:List Int) (ls:List (Int×Int)) (c:Nat): ∀i,roomW cs ls c i≤15*i
 | 0=>Nat.le_refl _
 | i+1=>by
  have h1:=roomW_le cs ls c i
  have h2:=roomI1_le cs ls c i (nb c)
  have h3:=nb_le c
  show roomW cs ls c i+roomI1 cs ls c i (nb c)≤_
  omega
end Go.Proofs.YtibiekfjbibpbaaGreat
