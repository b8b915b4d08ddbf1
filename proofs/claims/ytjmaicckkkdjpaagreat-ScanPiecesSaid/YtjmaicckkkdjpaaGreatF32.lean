import Derived.Test.YtjmaicckkkdjpaaGreatF22
set_option maxRecDepth 100000
set_option maxHeartbeats 2000000
set_option linter.unusedVariables false
/- The document's answer of layer 22: SamePairs, Same, May, Find; the program's May. -/
namespace Go.Proofs.YtjmaicckkkdjpaaGreat
open Go.RowKit
theorem RSame_some (g n cap g2 cap2:Nat) (ps qs:PairL) (w:World) (h:w.ownsRow 0 96 2 (.slice (some ⟨g,0,none⟩) n cap) n (pc ps)) (h2:w.ownsRow 0 96 2 (.slice (some ⟨g2,0,none⟩) n cap2) n (pc qs)) (hl:ps.length=n) (hl2:qs.length=n) (hn:n≤1000000):
  Calls Tryz.prog 33 #[.slice (some ⟨g,0,none⟩) n cap,.slice (some ⟨g2,0,none⟩) n cap2] w fun e w'=>e= .returned (.bool (pairsEq ps qs))∧Below w.heap.size w w':=by
 have HA:=hid h
 have HB:=hid h2
 clear h h2
 go_enter Tryz.func33,Tryz.ntmps33
 go_wp2_with fail
 go_loopw [5] (fun i wr=> ∃k:Nat,k≤n∧i= .int .i64 k∧(∃q,wr=w.drewN q)∧Hid (∀j (h1:j<ps.length) (h2:j<qs.length),j<k→pairEq ps[j] qs[j]=true)) (fun i _=>(n- (intOf i).toNat))
 case atStart=>exact⟨0,by omega,rfl,⟨0,rfl⟩,fun j _ _ h=>by omega⟩
 case round=>
  obtain⟨k,hk,rfl,⟨q,rfl⟩,hN⟩:=hrel
  by_cases hlt:k<n
  ·obtain⟨c1,c2⟩:=row_atQ HA.out hl k (by omega)
   obtain⟨d1,d2⟩:=row_atQ HB.out hl2 k (by omega)
   have hkp:k<ps.length:=by omega
   have hkq:k<qs.length:=by omega
   have i1:(0:Int)≤(k:Int):=by omega
   have i2:(k:Int)< (n:Int):=by omega
   cases he:pairEq ps[k] qs[k] with
   | true=>
    obtain⟨e1,e2⟩:=pairEq_t he
    have hN':Hid (∀j (h1:j<ps.length) (h2:j<qs.length),j<k+1→pairEq ps[j] qs[j]=true):=fun j h1 h2 h3=>by
     by_cases hj:j=k
     ·subst hj;exact he
     ·exact hN.out j h1 h2 (by omega)
    clear hN he
    go_wp2
    go_region
    go_wp2
    go_roundw
    case rel=>exact⟨k+1,by omega,by go_num,⟨q+1,rfl⟩,hN'⟩
    case measure=>simp[intOf];omega
   | false=>
    have hz:=hid (pairsEq_not k hkp hkq he)
    rcases pairEq_f he with e1 | ⟨e1,e2⟩
    all_goals
     clear hN he
     go_wp2
     go_region
     go_wp2
     go_ret
     exact⟨by rw[hz.out];rfl,by(repeat(first | exact Below.refl _ _ | (refine ba ?_ _) | (refine Below.drew ?_) | (refine below_drewN ?_ _) | (refine Below.alloc ?_ (by first | omega | (simp;done) | (simp;omega)) _) | (refine Below.setCell ?_ (by first | omega | (simp;done) | (simp;omega)) _) | (refine bx ?_ (by assumption)) | (refine Below.trans ?_ (Below.mono (by assumption) (by first | omega | (simp;done) | (simp;omega))))))⟩
  ·have hz:=hid (pairsEq_all (ps:=ps) (qs:=qs) (by omega) fun j h1 h2=>hN.out j h1 h2 (by omega))
   clear hN
   go_wp2
   go_ret
   exact⟨by rw[hz.out];rfl,by(repeat(first | exact Below.refl _ _ | (refine ba ?_ _) | (refine Below.drew ?_) | (refine below_drewN ?_ _) | (refine Below.alloc ?_ (by first | omega | (simp;done) | (simp;omega)) _) | (refine Below.setCell ?_ (by first | omega | (simp;done) | (simp;omega)) _) | (refine bx ?_ (by assumption)) | (refine Below.trans ?_ (Below.mono (by assumption) (by first | omega | (simp;done) | (simp;omega))))))⟩
theorem RSamePairs_z (v1 v2:Value) (ps qs:PairL) (w:World) (h:w.ownsRow 0 96 2 v1 ps.length (pc ps)) (h2:w.ownsRow 0 96 2 v2 qs.length (pc qs)) (hn:ps.length≤1000000) (hm:qs.length≤1000000):
  Calls Tryz.prog 33 #[v1,v2] w fun e w'=>e= .returned (.bool (pairsEq ps qs))∧Below w.heap.size w w':=by
 by_cases hl:ps.length=qs.length
 ·rcases h.2 with⟨rfl,h0⟩ | ⟨g,cap,cur,rfl,_⟩
  ·have hp:ps=[]:=List.eq_nil_of_length_eq_zero h0
   have hq:qs=[]:=List.eq_nil_of_length_eq_zero (by omega)
   subst hp hq
   rcases h2.2 with⟨rfl,_⟩ | ⟨g2,cap2,cur2,rfl,_⟩
   all_goals
    clear h h2
    go_enter Tryz.func33,Tryz.ntmps33
    go_wp2_with fail
    go_loopw [5] (fun i wr=>i= .int .i64 0∧wr=w) (fun i _=>0)
    case atStart=>exact⟨rfl,rfl⟩
    case round=>
     obtain⟨rfl,rfl⟩:=hrel
     go_wp2
     go_ret
     exact⟨rfl,Below.refl _ _⟩
  ·rcases h2.2 with⟨rfl,h0⟩ | ⟨g2,cap2,cur2,rfl,_⟩
   ·have hp:ps=[]:=List.eq_nil_of_length_eq_zero (by omega)
    have hq:qs=[]:=List.eq_nil_of_length_eq_zero (by omega)
    subst hp hq
    clear h h2
    go_enter Tryz.func33,Tryz.ntmps33
    go_wp2_with fail
    go_loopw [5] (fun i wr=>i= .int .i64 0∧wr=w) (fun i _=>0)
    case atStart=>exact⟨rfl,rfl⟩
    case round=>
     obtain⟨rfl,rfl⟩:=hrel
     go_wp2
     go_ret
     exact⟨rfl,Below.refl _ _⟩
   ·rw[←hl] at h2 ⊢
    exact RSame_some g ps.length cap g2 cap2 ps qs w h h2 rfl hl.symm hn
 ·have hz:=hid (pairsEq_len hl)
  have hne:((ps.length:Int) !=(qs.length:Int))=true:=by simp;omega
  rcases h.2 with⟨rfl,h0⟩ | ⟨g,cap,cur,rfl,_⟩<;>rcases h2.2 with⟨rfl,h1⟩ | ⟨g2,cap2,cur2,rfl,_⟩
  ·omega
  ·have hne2:((0:Int) !=(qs.length:Int))=true:=bne_iff_ne.2 (by omega)
   clear h h2 h0 hl hne
   go_enter Tryz.func33,Tryz.ntmps33
   go_wp2
   go_ret
   exact⟨by rw[hz.out];rfl,Below.refl _ _⟩
  ·have hne2:((ps.length:Int) !=(0:Int))=true:=bne_iff_ne.2 (by omega)
   clear h h2 h1 hl hne
   go_enter Tryz.func33,Tryz.ntmps33
   go_wp2
   go_ret
   exact⟨by rw[hz.out];rfl,Below.refl _ _⟩
  ·clear h h2 hl
   go_enter Tryz.func33,Tryz.ntmps33
   go_wp2
   go_ret
   exact⟨by rw[hz.out];rfl,Below.refl _ _⟩
def strBQ (s t:ByteArray):Bool:=s.toList==t.toList
theorem RSame_z (c1 c2:Int) (s1 s2:ByteArray) (v1 v2:Value) (ps qs:PairL) (w:World) (h:w.ownsRow 0 96 2 v1 ps.length (pc ps)) (h2:w.ownsRow 0 96 2 v2 qs.length (pc qs)) (hn:ps.length≤1000000) (hm:qs.length≤1000000):
  Calls Tryz.prog 12 #[.agg #[.int .i64 c1,.string s1,v1],.agg #[.int .i64 c2,.string s2,v2]] w fun e w'=>e= .returned (.bool (c1==c2&& (strBQ s1 s2&&pairsEq ps qs)))∧Below w.heap.size w w':=by
 obtain⟨a1,n1,k1,rfl⟩:=row_slice h
 obtain⟨a2,n2,k2,rfl⟩:=row_slice h2
 have H1:=hid h
 have H2:=hid h2
 clear h h2
 cases e1:(c1==c2) with
 | false=>
  go_enter Tryz.func12,Tryz.ntmps12
  go_wp2
  go_ret
  exact⟨rfl,by(repeat(first | exact Below.refl _ _ | (refine ba ?_ _) | (refine Below.drew ?_) | (refine below_drewN ?_ _) | (refine Below.alloc ?_ (by first | omega | (simp;done) | (simp;omega)) _) | (refine Below.setCell ?_ (by first | omega | (simp;done) | (simp;omega)) _) | (refine bx ?_ (by assumption)) | (refine Below.trans ?_ (Below.mono (by assumption) (by first | omega | (simp;done) | (simp;omega))))))⟩
 | true=>
  have e1':c1=c2:=by simpa using e1
  subst e1'
  clear e1
  cases e2:strBQ s1 s2 with
  | false=>
   have e3: ¬s1.toList=s2.toList:=by simpa[strBQ] using e2
   have e4:(s1.toList==s2.toList)=false:=e2
   clear e2
   go_enter Tryz.func12,Tryz.ntmps12
   go_wp2
   go_ret
   exact⟨rfl,by(repeat(first | exact Below.refl _ _ | (refine ba ?_ _) | (refine Below.drew ?_) | (refine below_drewN ?_ _) | (refine Below.alloc ?_ (by first | omega | (simp;done) | (simp;omega)) _) | (refine Below.setCell ?_ (by first | omega | (simp;done) | (simp;omega)) _) | (refine bx ?_ (by assumption)) | (refine Below.trans ?_ (Below.mono (by assumption) (by first | omega | (simp;done) | (simp;omega))))))⟩
  | true=>
   have e3:s1.toList=s2.toList:=by simpa[strBQ] using e2
   have e4:(s1.toList==s2.toList)=true:=e2
   clear e2
   have hB:=hid (ba (ba (Below.refl w.heap.size w) (.cells #[.int .i64 c1,.string s1,.slice a1 n1 k1] 41)) (.cells #[.int .i64 c1,.string s2,.slice a2 n2 k2] 41))
   go_enter Tryz.func12,Tryz.ntmps12
   go_wp2_with fail
   refine(RSamePairs_z _ _ ps qs _ ((Only.of_below hB.out []).own H1.out (by simp)) ((Only.of_below hB.out []).own H2.out (by simp)) hn hm).mono ?_
   rintro e v1 ⟨rfl,hb1⟩
   go_wp2
   go_ret
   exact⟨rfl,bx hB.out hb1⟩
def mayZQ (op key hi lim:Int) (n:Nat):Int:=if op<1∨op>4 then 2 else if op=4∧(key>hi∨lim<1∨lim>256) then 2 else if op=1∧120<n then 10 else 0
theorem RMay_z22 (op key hi lim:Int) (s:ByteArray) (w:World):
  Calls Tryz.prog 65 #[.agg #[.int .i64 op,.int .u64 key,.int .u64 hi,.int .i64 lim,.string s]] w fun e w'=>e= .returned (.int .i64 (mayZQ op key hi lim s.size))∧Below w.heap.size w w':=by
 by_cases h0:op<1∨op>4
 ·rw[show mayZQ op key hi lim s.size=2 from if_pos h0]
  rcases h0 with h0 | h0
  all_goals
   go_enter Tryz.func65,Tryz.ntmps65
   go_wp2
   go_ret
   exact⟨rfl,by(repeat(first | exact Below.refl _ _ | (refine ba ?_ _) | (refine Below.drew ?_) | (refine below_drewN ?_ _) | (refine Below.alloc ?_ (by first | omega | (simp;done) | (simp;omega)) _) | (refine Below.setCell ?_ (by first | omega | (simp;done) | (simp;omega)) _) | (refine bx ?_ (by assumption)) | (refine Below.trans ?_ (Below.mono (by assumption) (by first | omega | (simp;done) | (simp;omega))))))⟩
 ·have h01: ¬op<1:=by omega
  have h02: ¬op>4:=by omega
  by_cases h4:op=4
  ·by_cases hb:key>hi∨lim<1∨lim>256
   ·rw[show mayZQ op key hi lim s.size=2 by unfold mayZQ;rw[if_neg h0,if_pos ⟨h4,hb⟩]]
    clear h0
    subst h4
    by_cases b1:key>hi
    ·clear hb
     go_enter Tryz.func65,Tryz.ntmps65
     go_wp2
     go_ret
     exact⟨rfl,by(repeat(first | exact Below.refl _ _ | (refine ba ?_ _) | (refine Below.drew ?_) | (refine below_drewN ?_ _) | (refine Below.alloc ?_ (by first | omega | (simp;done) | (simp;omega)) _) | (refine Below.setCell ?_ (by first | omega | (simp;done) | (simp;omega)) _) | (refine bx ?_ (by assumption)) | (refine Below.trans ?_ (Below.mono (by assumption) (by first | omega | (simp;done) | (simp;omega))))))⟩
    ·by_cases b2:lim<1
     ·clear hb
      go_enter Tryz.func65,Tryz.ntmps65
      go_wp2
      go_ret
      exact⟨rfl,by(repeat(first | exact Below.refl _ _ | (refine ba ?_ _) | (refine Below.drew ?_) | (refine below_drewN ?_ _) | (refine Below.alloc ?_ (by first | omega | (simp;done) | (simp;omega)) _) | (refine Below.setCell ?_ (by first | omega | (simp;done) | (simp;omega)) _) | (refine bx ?_ (by assumption)) | (refine Below.trans ?_ (Below.mono (by assumption) (by first | omega | (simp;done) | (simp;omega))))))⟩
     ·have b3:lim>256:=by omega
      clear hb
      go_enter Tryz.func65,Tryz.ntmps65
      go_wp2
      go_ret
      exact⟨rfl,by(repeat(first | exact Below.refl _ _ | (refine ba ?_ _) | (refine Below.drew ?_) | (refine below_drewN ?_ _) | (refine Below.alloc ?_ (by first | omega | (simp;done) | (simp;omega)) _) | (refine Below.setCell ?_ (by first | omega | (simp;done) | (simp;omega)) _) | (refine bx ?_ (by assumption)) | (refine Below.trans ?_ (Below.mono (by assumption) (by first | omega | (simp;done) | (simp;omega))))))⟩
   ·rw[show mayZQ op key hi lim s.size=0 by unfold mayZQ;rw[if_neg h0,if_neg (fun h=>hb h.2),if_neg (by omega)]]
    have b1: ¬key>hi:=by omega
    have b2: ¬lim<1:=by omega
    have b3: ¬lim>256:=by omega
    clear h0 hb
    subst h4
    go_enter Tryz.func65,Tryz.ntmps65
    go_wp2
    go_ret
    exact⟨rfl,by(repeat(first | exact Below.refl _ _ | (refine ba ?_ _) | (refine Below.drew ?_) | (refine below_drewN ?_ _) | (refine Below.alloc ?_ (by first | omega | (simp;done) | (simp;omega)) _) | (refine Below.setCell ?_ (by first | omega | (simp;done) | (simp;omega)) _) | (refine bx ?_ (by assumption)) | (refine Below.trans ?_ (Below.mono (by assumption) (by first | omega | (simp;done) | (simp;omega))))))⟩
  ·have h4':(op==4)=false:=beq_eq_false_iff_ne.2 h4
   by_cases h1:op=1
   ·subst h1
    by_cases hs:120<s.size
    ·rw[show mayZQ 1 key hi lim s.size=10 by unfold mayZQ;rw[if_neg h0,if_neg (by omega),if_pos ⟨rfl,hs⟩]]
     clear h0
     go_enter Tryz.func65,Tryz.ntmps65
     go_wp2
     go_ret
     exact⟨rfl,by(repeat(first | exact Below.refl _ _ | (refine ba ?_ _) | (refine Below.drew ?_) | (refine below_drewN ?_ _) | (refine Below.alloc ?_ (by first | omega | (simp;done) | (simp;omega)) _) | (refine Below.setCell ?_ (by first | omega | (simp;done) | (simp;omega)) _) | (refine bx ?_ (by assumption)) | (refine Below.trans ?_ (Below.mono (by assumption) (by first | omega | (simp;done) | (simp;omega))))))⟩
    ·rw[show mayZQ 1 key hi lim s.size=0 by unfold mayZQ;rw[if_neg h0,if_neg (by omega),if_neg (by omega)]]
     clear h0
     go_enter Tryz.func65,Tryz.ntmps65
     go_wp2
     go_ret
     exact⟨rfl,by(repeat(first | exact Below.refl _ _ | (refine ba ?_ _) | (refine Below.drew ?_) | (refine below_drewN ?_ _) | (refine Below.alloc ?_ (by first | omega | (simp;done) | (simp;omega)) _) | (refine Below.setCell ?_ (by first | omega | (simp;done) | (simp;omega)) _) | (refine bx ?_ (by assumption)) | (refine Below.trans ?_ (Below.mono (by assumption) (by first | omega | (simp;done) | (simp;omega))))))⟩
   ·have h1':(op==1)=false:=beq_eq_false_iff_ne.2 h1
    rw[show mayZQ op key hi lim s.size=0 by unfold mayZQ;rw[if_neg h0,if_neg (by omega),if_neg (by omega)]]
    clear h0
    go_enter Tryz.func65,Tryz.ntmps65
    go_wp2
    go_ret
    exact⟨rfl,by(repeat(first | exact Below.refl _ _ | (refine ba ?_ _) | (refine Below.drew ?_) | (refine below_drewN ?_ _) | (refine Below.alloc ?_ (by first | omega | (simp;done) | (simp;omega)) _) | (refine Below.setCell ?_ (by first | omega | (simp;done) | (simp;omega)) _) | (refine bx ?_ (by assumption)) | (refine Below.trans ?_ (Below.mono (by assumption) (by first | omega | (simp;done) | (simp;omega))))))⟩
theorem bounds_may {key hi lim:Int} {n:Nat}:mayZQ 4 key hi lim n=boundsErr key hi lim:=by
 unfold mayZQ boundsErr
 rw[if_neg (by omega)]
 by_cases h:key>hi∨lim<1∨lim>256
 ·rw[if_pos ⟨rfl,h⟩,if_pos h]
 ·rw[if_neg (fun hh=>h hh.2),if_neg (by omega),if_neg h]
end Go.Proofs.YtjmaicckkkdjpaaGreat
/- The document's map of layer 22: its list, Find; what it stands for. -/
namespace Go.Proofs.YtjmaicckkkdjpaaGreat
open Go.RowKit
abbrev RL:=List (Int×ByteArray×Bool)
def rc (L:RL):List Value:=L.flatMap fun p=>[.int .u64 p.1,.string p.2.1,.bool p.2.2]
theorem rc_cons (p:Int×ByteArray×Bool) (L:RL):rc (p::L)= .int .u64 p.1:: .string p.2.1:: .bool p.2.2::rc L:=rfl
theorem rc_append (L M:RL):rc (L++M)=rc L++rc M:=by simp[rc]
theorem rc_at (L:RL) (k:Nat) (h:k<L.length):(rc L)[k*3]?=some (.int .u64 (L[k]'h).1)∧(rc L)[k*3+1]?=some (.string (L[k]'h).2.1)∧(rc L)[k*3+2]?=some (.bool (L[k]'h).2.2):=by
 induction L generalizing k with
 | nil=>simp at h
 | cons p L ih=>
  cases k with
  | zero=>rw[rc_cons];simp
  | succ k=>
   have:=ih k (by simpa using h)
   rw[rc_cons,show(k+1)*3=k*3+1+1+1 by omega]
   simpa[show k*3+1+1+1+1=(k*3+1)+1+1+1 by omega,show k*3+1+1+1+2=(k*3+2)+1+1+1 by omega] using this
theorem infoPut:(Tryz.prog.info? 165).map (fun i=>(i.zero,i.size,i.bytes))=some (some (.agg #[.int .u64 0,.string ⟨#[]⟩,.bool false]),3,32):=by kernel_rfl
structure RefIs (w:World) (r:Nat) (v:Value) (L:RL):Prop where
 obj:Blk w r 163 #[v]
 row:w.ownsRow 0 165 3 v L.length (rc L)
 few:L.length≤1000000
theorem RefIs.ne_ {w:World} {m:Nat} {v:Value} {ps:RL} (h:RefIs w m v ps):v.ownBlock≠some m:=by
 rcases h.row.2 with⟨rfl,_⟩ | ⟨g,cap,cur,rfl,_,hg,_⟩
 ·simp[Value.ownBlock]
 ·intro he
  have:g=m:=by simpa[Value.ownBlock] using he
  subst this
  exact Blk.ne_ (t:=165) hg h.obj (by decide) rfl
theorem RefIs.only {f:List Nat} {w w':World} {m:Nat} {v:Value} {ps:RL} (h:RefIs w m v ps) (ho:Only f w w') (hm:m∉f) (hv: ∀k,v.ownBlock=some k→k∉f):RefIs w' m v ps:=
 ⟨ho.blk h.obj hm,ho.own h.row hv,h.few⟩
theorem RefIs.bel {w w':World} {m:Nat} {v:Value} {ps:RL} (h:RefIs w m v ps) (hb:Below w.heap.size w w'):RefIs w' m v ps:=
 h.only (Only.of_below hb []) (by simp) (by simp)
theorem RefIs.own_lt {w:World} {m:Nat} {v:Value} {ps:RL} (h:RefIs w m v ps): ∀k,v.ownBlock=some k→k<w.heap.size:=fun k hk=>(row_lt h.row k hk).2
theorem RefIs.foot_lt {w:World} {m:Nat} {v:Value} {ps:RL} (h:RefIs w m v ps): ∀k,k∈footQ m v→k<w.heap.size:=by
 intro k hk
 simp only[footQ,List.mem_cons,Option.mem_toList] at hk
 rcases hk with rfl | hk
 ·exact h.obj.lt
 ·exact h.own_lt k hk
def findNQ (k:Int) (L:RL):Nat→Int
 | 0=> -1
 | i+1=>match L[i]? with | some p=>if p.1==k then(if p.2.2 then-1 else(i:Int)) else findNQ k L i | none=>findNQ k L i
def findZ (k:Int) (L:RL):Int:=findNQ k L L.length
theorem findN_hit {k:Int} {L:RL} {i:Nat} (h:i<L.length) (hk:(L[i].1==k)=true):findNQ k L (i+1)=if L[i].2.2 then-1 else(i:Int):=by
 rw[findNQ,List.getElem?_eq_getElem h];simp[hk]
theorem findN_miss {k:Int} {L:RL} {i:Nat} (h:i<L.length) (hk:(L[i].1==k)=false):findNQ k L (i+1)=findNQ k L i:=by
 rw[findNQ,List.getElem?_eq_getElem h];simp only[hk];rfl
theorem rrow_at {w:World} {g n cap base:Nat} {L:RL} (h:w.ownsRow base 165 3 (.slice (some ⟨g,0,none⟩) n cap) n (rc L)) (hl:L.length=n) (k:Nat) (hk:k<L.length):
  w.cell? ⟨g,k*3,none⟩=some (.int .u64 L[k].1)∧w.cell? ⟨g,k*3+1,none⟩=some (.string L[k].2.1)∧w.cell? ⟨g,k*3+2,none⟩=some (.bool L[k].2.2):=by
 have:=rc_at L k hk
 exact⟨(h.cellAt (k*3) (by omega)).trans this.1,(h.cellAt (k*3+1) (by omega)).trans this.2.1,(h.cellAt (k*3+2) (by omega)).trans this.2.2⟩
theorem Find_some (r g n cap:Nat) (key:Int) (L:RL) (w:World) (h:RefIs w r (.slice (some ⟨g,0,none⟩) n cap) L) (hl:L.length=n):
  Calls Tryz.prog 64 #[.pointer (some ⟨r,0,none⟩),.int .u64 key] w fun e w'=>e= .returned (.int .i64 (findZ key L))∧w=w':=by
 have hn:=h.few
 have c0:w.cell? ⟨r,0,none⟩=some (.slice (some ⟨g,0,none⟩) n cap):=h.obj.cell 0
 have hrow:=h.row
 rw[hl] at hrow
 have HR:=hid hrow
 have hZ:=hid (show findZ key L=findNQ key L n by unfold findZ;rw[hl])
 have HL:=hid hl
 clear h hrow
 rw[hl] at hn
 have i0:IntKind.i64.wrap ((n:Int)-1)=(n:Int)-1:=IntWalk.i64_in _ (by omega)
 go_enter Tryz.func64,Tryz.ntmps64
 go_wp2_with fail
 go_loopw [5] (fun p wr=> ∃i:Nat,i≤n∧p= .int .i64 ((i:Int)-1)∧wr=w∧Hid (findNQ key L n=findNQ key L i)) (fun p _=>(intOf p+1).toNat)
 case atStart=>exact⟨n,by omega,rfl,rfl,rfl⟩
 case round=>
  obtain⟨i,hi,rfl,rfl,hF⟩:=hrel
  clear i0
  cases i with
  | zero=>
   have hz:=hid (show findZ key L= -1 from hZ.out.trans hF.out)
   clear hF
   go_wp2
   go_ret
   exact⟨by rw[hz.out];rfl,rfl⟩
  | succ i=>
   have hil:i<L.length:=by have:=HL.out;omega
   obtain⟨x0,x1,x2⟩:=rrow_at HR.out HL.out i hil
   have e1:((i+1:Nat):Int)-1=(i:Int):=by omega
   rw[e1]
   have i1:(0:Int)≤(i:Int):=by omega
   have i2:(i:Int)< (n:Int):=by omega
   cases hk:((L[i]'hil).1==key) with
   | true=>
    have hh:=findN_hit hil hk
    cases hg:(L[i]'hil).2.2 with
    | true=>
     have hz:=hid (show findZ key L= -1 by rw[hZ.out,hF.out,hh,hg];rfl)
     rw[hg] at x2
     clear hF hh hg e1
     go_wp2
     go_ret
     exact⟨by rw[hz.out];rfl,rfl⟩
    | false=>
     have hz:=hid (show findZ key L=(i:Int) by rw[hZ.out,hF.out,hh,hg];rfl)
     rw[hg] at x2
     clear hF hh hg e1
     go_wp2
     go_ret
     exact⟨by rw[hz.out];rfl,rfl⟩
   | false=>
    have hF':Hid (findNQ key L n=findNQ key L i):=hF.out.trans (findN_miss hil hk)
    have i3:IntKind.i64.wrap ((i:Int)-1)=(i:Int)-1:=IntWalk.i64_in _ (by omega)
    clear hF e1
    go_wp2
    go_roundw
    case rel=>exact⟨i,by omega,rfl,trivial,hF'⟩
    case measure=>simp[intOf]
theorem Find_zQ (r:Nat) (v:Value) (key:Int) (L:RL) (w:World) (h:RefIs w r v L):
  Calls Tryz.prog 64 #[.pointer (some ⟨r,0,none⟩),.int .u64 key] w fun e w'=>e= .returned (.int .i64 (findZ key L))∧w=w':=by
 rcases h.row.2 with⟨rfl,h0⟩ | ⟨g,cap,cur,rfl,_⟩
 ·have:L=[]:=List.eq_nil_of_length_eq_zero h0
  subst this
  have c0:w.cell? ⟨r,0,none⟩=some (.slice none 0 0):=h.obj.cell 0
  clear h h0
  rw[show findZ key []= -1 from rfl]
  go_enter Tryz.func64,Tryz.ntmps64
  go_wp2_with fail
  go_loopw [5] (fun p wr=>p= .int .i64 (-1)∧wr=w) (fun _ _=>0)
  case atStart=>exact⟨rfl,rfl⟩
  case round=>
   obtain⟨rfl,rfl⟩:=hrel
   go_wp2
   go_ret
   exact⟨rfl,rfl⟩
 ·exact Find_some r g L.length cap key L w h rfl
end Go.Proofs.YtjmaicckkkdjpaaGreat
/- Plain: what the document's list stands for. -/
namespace Go.Proofs.YtjmaicckkkdjpaaGreat
open Go.RowKit
theorem snocRec {α:Type} {P:List α→Prop} (nil:P []) (snoc: ∀L p,P L→P (L++[p])) (L:List α):P L:=by
 have h: ∀M:List α,P M.reverse:=by
  intro M
  induction M with
  | nil=>exact nil
  | cons p M ih=>rw[List.reverse_cons];exact snoc _ _ ih
 have:=h L.reverse
 rwa[List.reverse_reverse] at this
def stepL (ps:PairL) (p:Int×ByteArray×Bool):PairL:=if p.2.2 then delM p.1 ps else putM p.1 p.2.1 ps
def absLQ (L:RL):PairL:=L.foldl stepL []
theorem absL_snoc (L:RL) (p:Int×ByteArray×Bool):absLQ (L++[p])=stepL (absLQ L) p:=by unfold absLQ;rw[List.foldl_append];rfl
theorem absL_put (L:RL) (k:Int) (s:ByteArray):absLQ (L++[(k,s,false)])=putM k s (absLQ L):=by rw[absL_snoc];rfl
theorem rises_nil:Rises []:=fun i j hij hj=>by simp at hj
theorem absL_rises (L:RL):Rises (absLQ L):=by
 induction L using snocRec with
 | nil=>exact rises_nil
 | snoc L p ih=>
  rw[absL_snoc];unfold stepL;split
  ·exact delM_rises ih
  ·exact putM_rises ih
theorem absL_length (L:RL):(absLQ L).length≤L.length:=by
 induction L using snocRec with
 | nil=>simp[absLQ]
 | snoc L p ih=>
  rw[absL_snoc];unfold stepL;split
  ·have:=delM_length p.1 (absLQ L);simp;omega
  ·have:=putM_length p.1 p.2.1 (absLQ L);simp;omega
theorem mem_split {k:Int} {ps:PairL} (p:Int×ByteArray):p∈ps↔p∈ps.take (placeI k ps)∨p∈ps.drop (placeI k ps):=by
 rw[←List.mem_append,List.take_append_drop]
theorem placeB_true {k:Int} {ps:PairL} (h:placeB k ps=true):(ps[placeI k ps]'(placeB_lt h)).1=k:=by
 have hlt:=placeB_lt h
 rw[placeB_in hlt] at h
 simpa using h
theorem drop_eq {k:Int} {ps:PairL} (h:placeB k ps=true):ps.drop (placeI k ps)=ps[placeI k ps]'(placeB_lt h)::ps.drop (placeI k ps+1):=
 List.drop_eq_getElem_cons (placeB_lt h)
theorem rest_iff {k:Int} {ps:PairL} (hr:Rises ps) (p:Int×ByteArray):
  p∈ps.take (placeI k ps)++ps.drop (if placeB k ps then placeI k ps+1 else placeI k ps)↔p∈ps∧p.1≠k:=by
 rw[List.mem_append]
 constructor
 ·rintro(h | h)
  ·exact⟨List.mem_of_mem_take h,by have:=take_lt p h;omega⟩
  ·exact⟨List.mem_of_mem_drop h,by have:=drop_gt hr p h;omega⟩
 ·rintro⟨h,hne⟩
  rcases(mem_split (k:=k) p).1 h with h | h
  ·exact Or.inl h
  ·right
   cases hb:placeB k ps with
   | true=>
    rw[drop_eq hb,List.mem_cons] at h
    rcases h with rfl | h
    ·exact absurd (placeB_true hb) hne
    ·simpa using h
   | false=>simpa using h
theorem mem_putM {k:Int} {s:ByteArray} {ps:PairL} (hr:Rises ps) (p:Int×ByteArray):p∈putM k s ps↔p=(k,s)∨(p∈ps∧p.1≠k):=by
 unfold putM
 rw[←rest_iff hr,List.mem_append,List.mem_append,List.mem_append,List.mem_singleton]
 constructor
 ·rintro((h | h) | h)
  ·exact Or.inr (Or.inl h)
  ·exact Or.inl h
  ·exact Or.inr (Or.inr h)
 ·rintro(h | h | h)
  ·exact Or.inl (Or.inr h)
  ·exact Or.inl (Or.inl h)
  ·exact Or.inr h
theorem mem_delM {k:Int} {ps:PairL} (hr:Rises ps) (p:Int×ByteArray):p∈delM k ps↔p∈ps∧p.1≠k:=by
 rw[←rest_iff hr]
 unfold delM
 cases hb:placeB k ps with
 | true=>simp
 | false=>simp only[Bool.false_eq_true,if_false];rw[List.take_append_drop]
theorem findN_snoc (k:Int) (L:RL) (p:Int×ByteArray×Bool) (i:Nat) (hi:i≤L.length):findNQ k (L++[p]) i=findNQ k L i:=by
 induction i with
 | zero=>rfl
 | succ i ih=>
  have hil:i<L.length:=by omega
  rw[findNQ,findNQ,List.getElem?_append_left hil,ih (by omega)]
theorem findZ_snoc (k:Int) (L:RL) (p:Int×ByteArray×Bool):findZ k (L++[p])=if p.1=k then(if p.2.2 then-1 else(L.length:Int)) else findZ k L:=by
 have hl:L.length< (L++[p]).length:=by simp
 have hg:(L++[p])[L.length]'hl=p:=by simp
 unfold findZ
 rw[List.length_append,List.length_singleton]
 by_cases h:p.1=k
 ·rw[findN_hit hl (by rw[hg];simpa using h),hg,if_pos h]
 ·rw[findN_miss hl (by rw[hg];simpa using h),if_neg h,findN_snoc k L p _ (Nat.le_refl _)]
theorem findZ_lt (k:Int) (L:RL):findZ k L<L.length∧ -1≤findZ k L:=by
 have: ∀i,i≤L.length→findNQ k L i< (i:Int)∧ -1≤findNQ k L i:=by
  intro i
  induction i with
  | zero=>intro _;simp[findNQ]
  | succ i ih=>
   intro hi
   have h1:=ih (by omega)
   have hil:i<L.length:=by omega
   cases hk:(L[i].1==k) with
   | true=>
    rw[findN_hit hil hk]
    split<;>omega
   | false=>rw[findN_miss hil hk];omega
 exact this L.length (Nat.le_refl _)
def LiveAt (L:RL) (i:Nat) (p:Int×ByteArray):Prop:= ∃q,L[i]?=some q∧findZ p.1 L=(i:Int)∧q.1=p.1∧q.2.1=p.2
theorem mem_absL (L:RL) (p:Int×ByteArray):p∈absLQ L↔ ∃i,LiveAt L i p:=by
 induction L using snocRec generalizing p with
 | nil=>
  constructor
  ·intro h;simp[absLQ] at h
  ·rintro⟨i,q,h,_⟩;simp at h
 | snoc L q ih=>
  rw[absL_snoc]
  have hf:=findZ_snoc p.1 L q
  by_cases hk:q.1=p.1
  ·rw[if_pos hk] at hf
   cases hg:q.2.2 with
   | true=>
    rw[hg] at hf
    simp only[if_true] at hf
    simp only[stepL,hg,if_true]
    rw[mem_delM (absL_rises L)]
    constructor
    ·rintro⟨_,h⟩;exact absurd hk.symm h
    ·rintro⟨i,r,_,h,_⟩;rw[hf] at h;omega
   | false=>
    rw[hg] at hf
    simp only[Bool.false_eq_true,if_false] at hf
    simp only[stepL,hg,Bool.false_eq_true,if_false]
    rw[mem_putM (absL_rises L)]
    constructor
    ·rintro(h | ⟨_,h⟩)
     ·exact⟨L.length,q,by simp,hf,hk,by rw[h]⟩
     ·exact absurd hk.symm h
    ·rintro⟨i,r,hr,h,h1,h2⟩
     rw[hf] at h
     obtain rfl:L.length=i:=by omega
     simp at hr
     subst hr
     exact Or.inl (Prod.ext h1.symm h2.symm)
  ·rw[if_neg hk] at hf
   have hst:p∈stepL (absLQ L) q↔p∈absLQ L:=by
    unfold stepL
    split
    ·rw[mem_delM (absL_rises L)]
     exact⟨fun h=>h.1,fun h=>⟨h,fun e=>hk e.symm⟩⟩
    ·rw[mem_putM (absL_rises L)]
     exact⟨fun h=>h.elim (fun e=>absurd (by rw[e]) hk) (fun h=>h.1),fun h=>Or.inr ⟨h,fun e=>hk e.symm⟩⟩
   rw[hst,ih]
   constructor
   ·rintro⟨i,r,hr,h,h1⟩
    exact⟨i,r,by rw[List.getElem?_append_left (List.getElem?_eq_some_iff.1 hr).1];exact hr,by rw[hf];exact h,h1⟩
   ·rintro⟨i,r,hr,h,h1⟩
    have hl:=findZ_lt p.1 L
    rw[hf] at h
    have hil:i<L.length:=by omega
    rw[List.getElem?_append_left hil] at hr
    exact⟨i,r,hr,h,h1⟩
theorem rises_inj {ps:PairL} (hr:Rises ps) {p q:Int×ByteArray} (hp:p∈ps) (hq:q∈ps) (h:p.1=q.1):p=q:=by
 obtain⟨i,hi,rfl⟩:=List.mem_iff_getElem.1 hp
 obtain⟨j,hj,rfl⟩:=List.mem_iff_getElem.1 hq
 rcases Nat.lt_trichotomy i j with hij | hij | hij
 ·have:=hr i j hij hj;omega
 ·subst hij;rfl
 ·have:=hr j i hij hi;omega
end Go.Proofs.YtjmaicckkkdjpaaGreat
