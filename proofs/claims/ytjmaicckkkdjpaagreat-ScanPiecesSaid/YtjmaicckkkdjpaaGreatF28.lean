import Derived.Maps.AppendAt
import Derived.Laws.Bits64b
import Derived.Deep.AppendLies
import Derived.Test.YtjmaicckkkdjpaaGreatF26
import Derived.ArgAppend
import Derived.Deep.Cut
import Derived.Lib.MinMax
import Derived.Maps.RangeRun
import Derived.Laws.Externs
import Derived.Deep.OwnRows
set_option maxRecDepth 100000
set_option maxHeartbeats 16000000
set_option linter.unusedVariables false
set_option linter.unusedSimpArgs false
/- slices.Clone at []uint64. -/
namespace Go.Proofs.YtjmaicckkkdjpaaGreat
open Go.RowKit
def FreshW (w:World) (n:Nat) (cs:List Value) (en:Ending) (w':World):Prop:=
 ∃v',en= .returned v'∧w'.ownsRow w.heap.size 25 1 v' n cs∧Below w.heap.size w w'
@[go_sem] theorem eqNilWords (a:Option Addr) (n c:Nat) (w:World):(binOp .eql 22 (.slice a n c) (.slice none 0 0)).run Tryz.prog w= .ok (.bool a.isNone) w:=by
 simp[binOp,run_equal_slice_nil w 22 25 a n c Tryz.underlying22]
theorem infoCW:(Tryz.prog.info? 25).map (fun i=>(i.zero,i.size,i.bytes))=some (some (.int .u64 0),1,8):=by kernel_rfl
theorem CloneW_nil (w:World):Calls Tryz.prog 92 #[.slice none 0 0] w fun e w'=>e= .returned (.slice none 0 0)∧w=w':=by
 go_enter Tryz.func92,Tryz.ntmps92
 go_wp2
 go_ret
 exact⟨rfl,rfl⟩
theorem CloneW_some (g n cap:Nat) (cs:List Value) (w:World) (hown:w.ownsRow 0 25 1 (.slice (some ⟨g,0,none⟩) n cap) n cs) (hn:n≤1000000) (h1: ∀v∈cs,v.oneCell'=true):
  Calls Tryz.prog 92 #[.slice (some ⟨g,0,none⟩) n cap] w (FreshW w n cs):=by
 obtain⟨i0,hi,hz0,hz1,hz2⟩:=info_parts infoCW
 have H3:=hid (show 0+n≤maxLen by unfold maxLen;omega)
 have H4:=hid (show(0+n)*8≤140737488355328 by omega)
 have HO:=hid h1
 have hl:=hown.1
 have hnews: ∀j u,cs[j]?=some u→(w.alloc (.cells #[] 25)).cell? ((⟨g,0,none⟩:Addr).add j)=some u:=fun j u hj=>ca _ (hown.cells (g:=g) rfl j u hj)
 have HN:=hid hnews
 have HL:=hid hl
 have hempty:(w.alloc (.cells #[] 25)).ownsRow w.heap.size 25 1 (.slice (some ⟨w.heap.size,0,none⟩) 0 0) 0 []:=by
  have:=World.ownsRow_lit (base:=w.heap.size) (e:=25) (size:=1) w #[] 0 (Nat.le_refl _) (Nat.zero_le _) rfl
  simpa using this
 have HE:=hid hempty
 clear hempty hnews hl hown h1
 go_enter Tryz.func92,Tryz.ntmps92
 go_wp2_with (at_builtin;refine wpList_append_own_at _ rfl _ _ 22 rfl w.heap.size 25 i0 (.int .u64 0) 1 8 Tryz.underlying22 hi hz0 hz1 hz2 rfl (by decide) (.slice (some ⟨w.heap.size,0,none⟩) 0 0) 0 [] rfl HE.out ⟨g,0,none⟩ n cap cs rfl HL.out HN.out HO.out H3.out H4.out (by simp) ?_;intro v' w1 hown' hgrow _ hat)
 go_ret
 refine⟨_,rfl,by simpa using hown',?_⟩
 exact((Below.refl _ w).alloc (Nat.le_refl _) _).grown hgrow (by simp) (fun k hk=>by have:w.heap.size=k:=by simpa[Value.ownBlock] using hk
                                                                                     omega)
theorem CloneW_row (v:Value) (n:Nat) (cs:List Value) (w:World) (hown:w.ownsRow 0 25 1 v n cs) (hn:n≤1000000) (h1: ∀v∈cs,v.oneCell'=true):
  Calls Tryz.prog 92 #[v] w (FreshW w n cs):=by
 rcases hown.2 with⟨rfl,rfl⟩ | ⟨g,cap,cur,rfl,_⟩
 ·refine(CloneW_nil w).mono fun e w' ⟨he,hw⟩=> ?_
  subst hw
  have:cs=[]:=List.eq_nil_of_length_eq_zero (by simpa using hown.1)
  subst this
  exact⟨_,he,World.ownsRow_nil _ _ _ _,Below.refl _ _⟩
 ·exact CloneW_some g n cap cs w hown hn h1
end Go.Proofs.YtjmaicckkkdjpaaGreat
/- A memory of words, made of bytes. -/
namespace Go.Proofs.YtjmaicckkkdjpaaGreat
section
open Go.RowKit Go.Shelf
attribute [local go_sem] Oper.semAt_some
attribute [local go_sem ↓ high] builtin_append_shut
attribute [local go_sem] appM_run
theorem or_word {a c:Int} {k:Nat} (ha:0≤a) (ha2:a<2^ (8*k)) (hc:0≤c) (hc2:c<256) (hk:k<8):bits BinOp.or IntKind.u64 a (IntKind.u64.wrap (c*2^ (8*k)))=a+c*2^ (8*k):=by
 obtain⟨a,rfl⟩:=Int.eq_ofNat_of_zero_le ha
 obtain⟨c,rfl⟩:=Int.eq_ofNat_of_zero_le hc
 have hp:((c:Int)*2^ (8*k))=((c*2^ (8*k):Nat):Int):=by simp
 have ha3:a<2^ (8*k):=by exact_mod_cast ha2
 have hc3:c<256:=by omega
 have hle:2^ (8*k)≤2^56:=Nat.pow_le_pow_right (by omega) (by omega)
 have hm:c*2^ (8*k)≤255*2^ (8*k):=Nat.mul_le_mul_right _ (by omega)
 have hb:c*2^ (8*k)<18446744073709551616:=by omega
 rw[hp,IntWalk.u64_in _ (by omega),bits_or_u64_nat a _ (by omega) hb]
 rw[Nat.or_comm,←Nat.shiftLeft_eq,←Nat.shiftLeft_add_eq_or_of_lt ha3]
 push_cast
 omega
theorem may_z (n:Nat) (w:World) (hn:(n:Int)<9223372036854775808):Calls Tryz.prog 90 #[.int .i64 (n:Int)] w fun e w'=>e= .returned (.bool (mayB n))∧w=w':=by
 by_cases h1:(n:Int)≥64
 ·by_cases h2:(n:Int)≤1048576
  ·have HZ:=hid (show mayB n=((n:Int)% 64==0) by unfold mayB;rw[Bool.eq_iff_iff];simp;omega)
   go_enter Tryz.func90,Tryz.ntmps90
   go_wp2
   go_ret
   exact⟨by rw[HZ.out];rfl,rfl⟩
  ·have HZ:=hid (show mayB n=false by unfold mayB;simp;omega)
   go_enter Tryz.func90,Tryz.ntmps90
   go_wp2
   go_ret
   exact⟨by rw[HZ.out];rfl,rfl⟩
 ·have HZ:=hid (show mayB n=false by unfold mayB;simp;omega)
  go_enter Tryz.func90,Tryz.ntmps90
  go_wp2
  go_ret
  exact⟨by rw[HZ.out];rfl,rfl⟩
theorem rowZero {w:World} {base:Nat} {e:TypeId} {size:Nat} {v:Value} {n:Nat} {xs:List Value} (h:w.ownsRow base e size v n xs):w.ownsRow 0 e size v n xs:=by
 refine⟨h.1,?_⟩
 rcases h.2 with h | ⟨g,cap,cur,h1,h2,h3⟩
 ·exact Or.inl h
 ·exact Or.inr ⟨g,cap,cur,h1,Nat.zero_le _,h3⟩
theorem grown_blk {W W':World} {row:Option Nat} {g:Nat} {t:TypeId} {cs:Array Value} (h:Blk W g t cs) (hg:W.grownBy W' row) (hr: ∀r,row=some r→ ∃o:Obj,W.heap[r]?=some o∧o.isCells=false):Blk W' g t cs:=by
 refine h.grown hg fun e=> ?_
 obtain⟨o,ho,hc⟩:=hr g e.symm
 rw[h] at ho
 cases ho
 cases hc
theorem grown_own {W W':World} {row:Option Nat} {base:Nat} {e:TypeId} {size n:Nat} {v:Value} {xs:List Value} (h:W.ownsRow base e size v n xs) (hg:W.grownBy W' row) (hr: ∀r,row=some r→ ∃o:Obj,W.heap[r]?=some o∧o.isCells=false):W'.ownsRow base e size v n xs:=by
 refine⟨h.1,?_⟩
 rcases h.2 with h1 | ⟨g,cap,cur,hv,hgb,hh,rest⟩
 ·exact Or.inl h1
 ·exact Or.inr ⟨g,cap,cur,hv,hgb,grown_blk hh hg hr,rest⟩
def freshM (ws:List Int):MemS:={ view:=ws,image:=ws,lines:=[],clock:=0,st:=⟨0,0,0,0⟩ }
structure OfI (w:World) (m lb N0:Nat) (bs:List Int) (w5:World) (xs:List Nat) (v:Value) (W:World):Prop where
 blk:Blk W m 124 #[.slice none 0 0,v,.map (some lb),.int .u64 0,.int .u64 0,.int .u64 0,.int .u64 0]
 own:W.ownsRow N0 25 1 v xs.length (xs.map fun x=> .int .u64 (wAt bs x))
 bel:Below w.heap.size w W
 keep:KeepN [m] N0 w5 W
theorem OfI.own_from {w:World} {m lb N0 B:Nat} {bs:List Int} {w5:World} (q:Nat) (h1:w.heap.size≤B) (h2:N0≤B) (h3:N0≤w5.heap.size):OwnFrom B (fun(xs:List (Fin q)) W=> ∃v,OfI w m lb N0 bs w5 (xs.map (·.val)) v W):=by
 rintro xs W W' row ⟨v,h⟩ hg hr
 have hr': ∀r,row=some r→ ∃o:Obj,W.heap[r]?=some o∧o.isCells=false:=fun r e=>(hr r e).2
 exact⟨v,grown_blk h.blk hg hr',grown_own h.own hg hr',⟨hg.os.trans h.bel.os,hg.tape.trans h.bel.tape,hg.output.trans h.bel.output,Nat.le_trans h.bel.size hg.size,fun k hk=>(hg.block k (Nat.lt_of_lt_of_le hk h.bel.size) (fun e=>by have:=(hr k e.symm).1;omega)).trans (h.bel.block k hk)⟩,
  ⟨Nat.le_trans h.keep.size hg.size,fun k hk hn=>by
   by_cases hkw:k<W.heap.size
   ·exact(hg.block k hkw (fun e=>by have:=(hr k e.symm).1;omega)).trans (h.keep.block k hk hn)
   ·exact absurd (Nat.lt_of_lt_of_le hk (Nat.le_trans h3 h.keep.size)) hkw⟩⟩
theorem words_of_own {W:World} {base n:Nat} {v:Value} {ws:List Int} (h:W.ownsRow base 25 1 v n (ws.map fun x=>Value.int .u64 x)) (hn:0<n): ∃g cap,v= .slice (some ⟨g,0,none⟩) n cap∧base≤g∧g<W.heap.size∧WrdsAt W g ws:=by
 rcases h.2 with⟨_,h1⟩ | ⟨g,cap,cur,h1,h2,h3,h4,h5,h6,h7⟩
 ·omega
 ·refine⟨g,cap,h1,h2,(Array.getElem?_eq_some_iff.1 h3).1,cur,h3,fun i x hx=> ?_⟩
  have hl:=h.1
  have hi:i<n*1:=by
   have:=(List.getElem?_eq_some_iff.1 hx).1
   simp at hl
   omega
  have h8:(cur.toList.take (n*1))[i]?=some (.int .u64 x):=by rw[h7,List.getElem?_map,hx];rfl
  rw[List.getElem?_take,if_pos hi] at h8
  simpa using h8
theorem words_range {bs:List Int} {q:Nat} (h:bs.length=8*q):(((List.finRange q).map (·.val)).map fun x=>Value.int .u64 (wAt bs x))=(wordsOf bs).map fun x=>Value.int .u64 x:=by
 unfold wordsOf
 rw[show bs.length/8=q by omega,List.map_map,List.map_map]
 apply List.ext_getElem?
 intro i
 by_cases hi:i<q
 ·simp[hi]
 ·simp[hi]
theorem fresh_mem {w W w5 v1 V:World} {m lb N0 q D:Nat} {bs:List Int} {v:Value} {va:Option Addr} {vc:Nat} {o:Obj} (hq:bs.length=8*q) (hq0:0<q) (hqb:q≤131072) (hI:OfI w m lb N0 bs w5 ((List.finRange q).map (·.val)) v W) (hm:w.heap.size≤m) (hmN:m<N0) (hlb:w.heap.size≤lb) (hlbN:lb<N0) (hlm:lb≠m) (hwN:w.heap.size≤N0)
  (hmap:w5.heap[lb]?=some (.map #[] 0)) (hN5:N0≤w5.heap.size) (hb:Below W.heap.size W v1) (hr:v1.ownsRow W.heap.size 25 1 (.slice va q vc) q (((List.finRange q).map (·.val)).map fun x=> .int .u64 (wAt bs x)))
  (hD:N0≤D) (hk:W.heap[D]?=some o) (ho:o.isCells=false) (hV:V=v1.setCell ⟨m,0,none⟩ (.slice va q vc)) (o':Obj):
  (∃B,MemIs (V.putObj D o') m B (freshM (wordsOf bs))∧ ∀k∈footM m B (freshM (wordsOf bs)),w.heap.size≤k)∧Below w.heap.size w (V.putObj D o')∧V.heap[D]?=some o:=by
 have hwl:(wordsOf bs).length=q:=by simp[wordsOf];omega
 have hown:=hI.own
 rw[words_range hq] at hr hown
 have hxl:((List.finRange q).map (·.val)).length=q:=by simp
 rw[hxl] at hown
 obtain⟨ib,ic,rfl,hib,hibl,hiw⟩:=words_of_own hown hq0
 obtain⟨vb,vc',hv,hvb,hvbl,hvw⟩:=words_of_own hr hq0
 injection hv with h1 h2 h3
 subst h1 h3
 have hDl:D<W.heap.size:=(Array.getElem?_eq_some_iff.1 hk).1
 have hmW:m<W.heap.size:=hI.blk.lt
 have hDm:D≠m:=by omega
 have hDi:D≠ib:=fun e=>by
  obtain⟨cur,h4,_⟩:=hiw
  subst e
  rw[h4] at hk;cases hk;cases ho
 have ov:Only [m] v1 V:=by rw[hV];exact(Only.refl _ _).setCell (Or.inl (by simp)) _
 have oD:Only [m,D] v1 (V.putObj D o'):=Only.putObj (ov.mono (fun x hx=>by simp at hx;simp[hx])) (Or.inl (by simp)) o'
 have oW:Only [m,D] W (V.putObj D o'):=(Only.of_below hb []).mono (g:=[m,D]) (fun x hx=>by cases hx) |>.trans oD (fun x hx=>Or.inl hx)
 refine⟨⟨⟨vb,vc,ib,ic,lb⟩,?_,fun k hk=>by
  simp only[footM,freshM,List.map_nil,List.mem_cons,List.not_mem_nil,or_false] at hk
  have:=hI.keep.size
  rcases hk with rfl | rfl | rfl | rfl<;>omega⟩,?_,?_⟩
 ·have hblk:Blk (V.putObj D o') m 124 (memC ⟨vb,vc,ib,ic,lb⟩ q ⟨0,0,0,0⟩):=by
   have h4:Blk V m 124 (memC ⟨vb,vc,ib,ic,lb⟩ q ⟨0,0,0,0⟩):=by rw[hV];exact(hI.blk.bel hb).set_ 0 _
   exact h4.putObj (Ne.symm hDm) o'
  have hlbW:W.heap[lb]?=some (.map #[] 0):=(hI.keep.block lb hlbN (by simpa using hlm)).trans hmap
  exact{
   blk:=by simp only[freshM,hwl];exact hblk
   pos:=by simp only[freshM,hwl];exact hq0
   big:=by simp only[freshM,hwl];exact hqb
   len:=rfl
   view:=by
    refine hvw.only oD ?_
    simp
    constructor
    ·omega
    ·omega
   image:=by
    refine hiw.only oW ?_
    simp
    constructor
    ·omega
    ·exact fun e=>hDi e.symm
   map:=(oW.block lb (Array.getElem?_eq_some_iff.1 hlbW).1 (by simp;constructor;exact hlm;omega)).trans hlbW
   rows:=fun L hL=>by cases hL
   ok:=fun L hL=>by cases hL
   keys:=List.Pairwise.nil
   born:=List.Pairwise.nil
   old:=fun L hL=>by cases hL
   apart:=by
    simp only[footM,freshM,List.map_nil,List.nodup_cons,List.mem_cons,not_or,List.not_mem_nil,not_false_eq_true,and_true,List.nodup_nil]
    refine⟨⟨?_,?_,?_⟩,⟨?_,?_⟩,?_⟩<;>first | omega | exact fun e=>hlm e.symm }
 ·refine⟨oW.os.trans hI.bel.os,oW.tape.trans hI.bel.tape,oW.output.trans hI.bel.output,Nat.le_trans hI.bel.size oW.size,fun k hk=> ?_⟩
  refine(oW.block k (Nat.lt_of_lt_of_le hk hI.bel.size) (by simp;omega)).trans (hI.bel.block k hk)
 ·rw[ov.block D (Nat.lt_of_lt_of_le hDl hb.size) (by simpa using hDm),hb.block D hDl,hk]
def CalmP (Q:Exit→Act→World→Prop):Exit→Act→World→Prop
 | .panic _,_,_=>False
 | e,a,w=>Q e a w
theorem CalmP.imp {Q:Exit→Act→World→Prop}: ∀(e:Exit) (a:Act) (w:World),CalmP Q e a w→Q e a w:=fun e a w h=>by
 cases e<;>first | exact h | exact(h:False).elim
theorem CalmP.normal {Q:Exit→Act→World→Prop} {a:Act} {w:World} (h:Q .normal a w):CalmP Q .normal a w:=h
theorem own_block {w:World} {base:Nat} {e:TypeId} {size n:Nat} {v:Value} {xs:List Value} (h:w.ownsRow base e size v n xs): ∀k,v.ownBlock=some k→base≤k∧ ∃o:Obj,w.heap[k]?=some o∧o.isCells=true:=by
 intro k hk
 rcases h.2 with⟨h1,_⟩ | ⟨g,cap,cur,h1,h2,h3,_⟩
 ·rw[h1] at hk;cases hk
 ·rw[h1] at hk
  have:g=k:=by simpa[Value.ownBlock] using hk
  subst this
  exact⟨h2,_,h3,rfl⟩
theorem OfI.step {w W w9 w5:World} {m lb N0:Nat} {bs:List Int} {xs:List Nat} {v:Value} {x:Nat} {va:Option Addr} {vc:Nat} {tmp:Obj} (hI:OfI w m lb N0 bs w5 xs v W) (hm:w.heap.size≤m) (hmN:m<N0) (hN:N0≤W.heap.size) (hwN:w.heap.size≤N0)
  (ho:w9.ownsRow N0 25 1 (.slice va (xs.length+1) vc) (xs.length+1) (xs.map (fun x=> .int .u64 (wAt bs x))++[.int .u64 (wAt bs x)])) (hg:((W.alloc tmp).drew).grownBy w9 v.ownBlock):
  KeepsFrom N0 W (w9.setCell ⟨m,1,none⟩ (.slice va (xs.length+1) vc))∧KeepN [m] N0 W (w9.setCell ⟨m,1,none⟩ (.slice va (xs.length+1) vc))∧OfI w m lb N0 bs w5 (xs++[x]) (.slice va (xs.length+1) vc) (w9.setCell ⟨m,1,none⟩ (.slice va (xs.length+1) vc)):=by
 have hob:=own_block hI.own
 have hb:Only v.ownBlock.toList W w9:=((Only.refl _ W).alloc tmp).drew.trans (Only.of_grown (f:=v.ownBlock.toList) hg (fun k hk=>by simp[hk])) (fun x hx=>Or.inl hx)
 have hm9:m∉v.ownBlock.toList:=fun hc=>by
  have:=(hob m (by simpa[Option.mem_toList] using hc)).1
  omega
 have hblk9:=hb.blk hI.blk hm9
 have hall:Only (m::v.ownBlock.toList) W (w9.setCell ⟨m,1,none⟩ (.slice va (xs.length+1) vc)):=(hb.mono (fun x hx=>List.mem_cons_of_mem _ hx)).setCell (Or.inl (by simp)) _
 have hk:KeepN [m] N0 W (w9.setCell ⟨m,1,none⟩ (.slice va (xs.length+1) vc)):=⟨hall.size,fun k hk hn=>hall.block k (Nat.lt_of_lt_of_le hk hN) (fun hc=>by
  rcases List.mem_cons.1 hc with h | h
  ·exact hn (by simp[h])
  ·have:=(hob k (by simpa[Option.mem_toList] using h)).1
   omega)⟩
 refine⟨⟨hall.size,fun k o hB hk ho=> ?_⟩,hk,⟨hblk9.set_ 1 _,?_,?_,hI.keep.trans hk⟩⟩
 ·refine(hall.block k (Array.getElem?_eq_some_iff.1 hk).1 (fun hc=> ?_)).trans hk
  rcases List.mem_cons.1 hc with h | h
  ·omega
  ·obtain⟨_,o',h1,h2⟩:=hob k (by simpa[Option.mem_toList] using h)
   rw[hk] at h1;cases h1;rw[ho] at h2;cases h2
 ·have h1:(w9.setCell ⟨m,1,none⟩ (.slice va (xs.length+1) vc)).ownsRow N0 25 1 (.slice va (xs.length+1) vc) (xs.length+1) (xs.map (fun x=> .int .u64 (wAt bs x))++[.int .u64 (wAt bs x)]):=
   ((Only.refl [m] w9).setCell (Or.inl (by simp)) _).own ho (fun k hk hc=>by
    have:=(own_block ho k hk).1
    simp at hc
    omega)
  simpa using h1
 ·refine⟨hall.os.trans hI.bel.os,hall.tape.trans hI.bel.tape,hall.output.trans hI.bel.output,Nat.le_trans hI.bel.size hall.size,fun k hk=> ?_⟩
  refine(hall.block k (Nat.lt_of_lt_of_le hk hI.bel.size) (fun hc=> ?_)).trans (hI.bel.block k hk)
  rcases List.mem_cons.1 hc with h | h
  ·omega
  ·have:=(hob k (by simpa[Option.mem_toList] using h)).1
   omega
theorem Of_in (p:Option Addr) (cap:Nat) (bs:List Int) (hm:mayB bs.length=true) (hcap:cap≤9223372036854775807) (w:World) (h:BytesIn w p cap bs):
  CallsIn Fence.wide 5 Tryz.prog 58 #[.slice p bs.length cap] w fun e W'=> ∃(m:Nat) (B:MB),e= .returned (.tuple #[ptrV m,.int .i64 0])∧MemIs W' m B (freshM (wordsOf bs))∧Below w.heap.size w W'∧ ∀k∈footM m B (freshM (wordsOf bs)),w.heap.size≤k:=by
 obtain⟨q,hq⟩: ∃q,bs.length=8*q:=⟨bs.length/8,by unfold mayB at hm;simp at hm;omega⟩
 have hml:(bs.length:Int)<9223372036854775808:=by have:=h.1;omega
 obtain⟨N,hN⟩: ∃N,N=bs.length:=⟨_,rfl⟩
 rw[←hN] at hm hml hq ⊢
 have HH:=hid h
 have HM:=hid hm
 have HQ:=hid hq
 have HN:=hid hN
 clear hq hN
 refine callsIn_of_wp_marks Tryz.func58 rfl trivial ?_ rfl
 simp only[Tryz.ntmps58,List.size_toArray,List.length_cons,List.length_nil,Nat.reduceAdd,Nat.reduceSub,Array.replicate_succ,Array.replicate_zero,List.push_toArray,List.append_toArray,List.nil_append,List.cons_append]
 have hmk:(Instr.makeMap 120 none).run Tryz.prog w= .ok (.map (some w.heap.size)) (w.alloc (.map #[] 0)):=by
  simp[Instr.makeMap,run_underlying Tryz.underlying120]
 clear h hm
 gi_wp2_with fail
 refine⟨trivial,(callsIn_wide.2 (may_z N _ hml)).mono ?_⟩
 rintro e w1 ⟨rfl,rfl⟩
 rw[HM.out]
 gi_wp2_with fail
 refine⟨trivial,(Chunk_make _ _ _ ⟨_,_,_,rfl⟩).mono ?_⟩
 rintro e w1 ⟨rfl,rfl⟩
 gi_wp2_with fail
 obtain⟨b,off,rfl,hbl,hbc⟩: ∃b off,p=some ⟨b,off,none⟩∧b<w.heap.size∧ ∀i x,bs[i]?=some x→w.cell? ⟨b,off+i,none⟩=some (.int .u8 x):=HH.out.2.2 (by have:=HM.out;have:=HN.out;unfold mayB at*;simp at*;omega)
 generalize hW5:World.alloc _ (Obj.cells #[Value.int IntKind.i64 8] 3)=W5
 obtain⟨lb,hlb⟩: ∃lb,lb=w.heap.size:=⟨_,rfl⟩
 obtain⟨m,hm⟩: ∃m,m=w.heap.size+1:=⟨_,rfl⟩
 obtain⟨pv,hpv⟩: ∃pv,pv=w.heap.size+1+1:=⟨_,rfl⟩
 obtain⟨Bs,hBs⟩: ∃Bs,Bs=w.heap.size+1+1+1:=⟨_,rfl⟩
 obtain⟨Bn,hBn⟩: ∃Bn,Bn=w.heap.size+1+1+1+1:=⟨_,rfl⟩
 rw[←hBn,←hBs,←hpv,←hm,←hlb]
 have hsz:W5.heap.size=w.heap.size+5:=by rw[←hW5];simp
 have hbel:Below w.heap.size w W5:=by rw[←hW5];exact ba (ba (ba (ba (ba (Below.refl _ _) _) _) _) _) _
 have hblk:Blk W5 m 124 #[.slice none 0 0,.slice none 0 0,.map (some lb),.int .u64 0,.int .u64 0,.int .u64 0,.int .u64 0]:=by
  rw[←hW5,hm,hlb]
  exact(((by simpa using Blk.new (w.alloc (.map #[] 0)) 124 #[.slice none 0 0,.slice none 0 0,.map (some w.heap.size),.int .u64 0,.int .u64 0,.int .u64 0,.int .u64 0]:Blk ((w.alloc (.map #[] 0)).alloc (.cells #[.slice none 0 0,.slice none 0 0,.map (some w.heap.size),.int .u64 0,.int .u64 0,.int .u64 0,.int .u64 0] 124)) (w.heap.size+1) 124 #[.slice none 0 0,.slice none 0 0,.map (some w.heap.size),.int .u64 0,.int .u64 0,.int .u64 0,.int .u64 0]).alloc _).alloc _).alloc _
 have hmap:W5.heap[lb]?=some (.map #[] 0):=by
  rw[←hW5,hlb]
  rw[Below.heap_alloc _ _ _ (by simp;omega),Below.heap_alloc _ _ _ (by simp;omega),Below.heap_alloc _ _ _ (by simp;omega),Below.heap_alloc _ _ _ (by simp)]
  exact heap_alloc_new _ _
 have hpc:W5.cell? ⟨pv,0,none⟩=some (ptrV m):=by rw[←hW5,hpv,hm];clear hW5;go_simp
 have hsc:W5.cell? ⟨Bs,0,none⟩=some (.slice (some ⟨b,off,none⟩) N cap):=by rw[←hW5,hBs];clear hW5;go_simp
 have hnc:W5.cell? ⟨Bn,0,none⟩=some (.int .i64 8):=by rw[←hW5,hBn];clear hW5;go_simp
 have HB:=hid (⟨hlb,hm,hpv,hBs,hBn,hsz⟩:_∧_∧_∧_∧_∧_)
 have HBEL:=hid hbel
 have HBLK:=hid hblk
 have HMAP:=hid hmap
 have HPC:=hid hpc
 have HBC:=hid hbc
 have hN0:Bs<W5.heap.size∧Bn<W5.heap.size∧Bs∉ [m]∧Bn∉ [m]:=by simp;omega
 have HN0:=hid hN0
 clear hlb hm hpv hBs hBn hsz hbel hblk hmap hpc hbc hW5 hN0
 refine wpIn_rangeFunc_ownG rfl (by omega) (gf:=135) (lb:= #[.pointer (some ⟨Bs,0,none⟩),.pointer (some ⟨Bn,0,none⟩)]) rfl trivial (enters_of Tryz.func135 (by kernel_rfl) rfl)
  (Chunk_stops 4 q b off cap (some ⟨b,off,none⟩) [m] W5.heap.size Bs Bn W5 (by have:=HQ.out;have:=HN.out;have:=HH.out.1;omega) hcap (fun _=>rfl) HN0.out.1 HN0.out.2.1 HN0.out.2.2.1 HN0.out.2.2.2 (Nat.le_refl _) (by rw[←HQ.out];exact hsc) hnc) KeepN.trans ?hKb (Below.refl _ _) (fun _=>rfl)
  (fun(xs:List (Fin q)) W=> ∃v,OfI w m lb W5.heap.size bs W5 (xs.map (·.val)) v W) (fun _ _ _=>False) (OfI.own_from q HBEL.out.size (Nat.le_refl _) (Nat.le_refl _)) (fun _ _ _ _ _ h=>h.elim)
  ?h0
  (fun x=>{ tmps:= #[.slice (some ⟨b,off,none⟩) N cap,undef,.pointer none,.int .i64 0,.pointer (some ⟨pv,0,none⟩),(.slice (some ⟨b,off+8*x.val,none⟩) 8 8),undef,undef,.slice (some ⟨b,off,none⟩) N cap,.int .i64 N,.bool true,.bool false,.map (some lb),.agg #[.slice none 0 0,.slice none 0 0,.map (some lb),.int .u64 0,.int .u64 0,.int .u64 0,.int .u64 0],.pointer (some ⟨m,0,none⟩),.slice (some ⟨b,off,none⟩) N cap,.func (.func 135) #[] #[.pointer (some ⟨Bs,0,none⟩),.pointer (some ⟨Bn,0,none⟩)],(.slice (some ⟨b,off+8*x.val,none⟩) 8 8),undef,undef,undef,undef,undef,undef,undef,undef,undef,undef,undef,undef,undef,undef,undef,undef,undef,undef,undef,undef,undef,undef,undef,undef,undef,undef,undef,undef,undef,undef,undef,undef,undef,undef,undef],defers:=[] }) ?assign ?body ?done ?stop
 case hKb=>
  intro W l o o' hl ho hc hw
  exact KeepN.putObj (KeepN.refl _ _ _) hl _
 case h0=>exact⟨_,HBLK.out,⟨rfl,Or.inl ⟨rfl,rfl⟩⟩,HBEL.out,KeepN.refl _ _ _⟩
 case assign=>
  intro l x W K hK
  gi_wp2
  exact hK
 case body=>
  rintro l pre x W ⟨v,hI⟩ hlt
  gi_wp2_with fail
  obtain⟨cs,hcs⟩: ∃cs,cs=(bs.drop (8*x.val)).take 8:=⟨_,rfl⟩
  have hxq:=x.isLt
  have hcl:cs.length=8:=by rw[hcs];have:=HQ.out;have:=HN.out;simp;omega
  have hby: ∀j c,cs[j]?=some c→W.cell? ⟨b,off+8*x.val+j,none⟩=some (.int .u8 c)∧0≤c∧c<256:=by
   intro j c hj
   have hj8:j<8:=by have:=(List.getElem?_eq_some_iff.1 hj).1;omega
   rw[hcs,List.getElem?_take,if_pos hj8,List.getElem?_drop] at hj
   have h1:=HBC.out _ _ hj
   refine⟨?_,HH.out.2.1 c (List.mem_of_getElem? hj)⟩
   rw[hI.bel.cell (by exact hbl),←Nat.add_assoc] at*
   exact h1
  have HBY:=hid hby
  have HI:=hid hI
  have HCL:=hid hcl
  have HCS:=hid hcs
  clear hby hI hcl hcs
  gi_loop [6,7,20] (fun v _ i=> ∃k:Nat,k≤8∧i= .int .i64 k∧v= .int .u64 (leW (cs.take k))) (fun _ _ i=>(8- (intOf i).toNat))
  case atStart=>exact⟨0,by omega,rfl,rfl⟩
  case round=>
   obtain⟨k,hk,rfl,rfl⟩:=hrel
   by_cases hlt2:k<8
   ·obtain⟨c,hc⟩: ∃c,cs[k]?=some c:=⟨_,List.getElem?_eq_getElem (by have:=HCL.out;omega)⟩
    obtain⟨y0,y1,y2⟩:=HBY.out k c hc
    have i1:(0:Int)≤k:=by omega
    have i2:(k:Int)<8:=by omega
    have HC:=hid hc
    clear hc
    have hw:Hid (bits BinOp.or IntKind.u64 (leW (cs.take k)) (IntKind.u64.wrap (c*2^ (8*k)))=leW (cs.take (k+1))):=by
     have hl:(cs.take k).length=k:=by have:=HCL.out;simp;omega
     have h1:=leW_bounds (bs:=cs.take k) (fun z hz=>by
      obtain⟨j,hj⟩:=List.getElem?_of_mem (List.mem_of_mem_take hz)
      exact(HBY.out j z hj).2)
     rw[hl] at h1
     rw[or_word h1.1 h1.2 y1 y2 hlt2]
     have h2:=leW_snoc (cs.take k) c
     rw[hl] at h2
     rw[←h2]
     congr 1
     obtain⟨hkl,hck⟩:=List.getElem?_eq_some_iff.1 HC.out
     rw[List.take_succ_eq_append_getElem hkl,hck]
    gi_wp2
    go_round
    case rel=>exact⟨k+1,by omega,by go_num,by rw[hw.out]⟩
    case measure=>simp[intOf];omega
   ·obtain rfl:k=8:=by omega
    have ht:cs.take 8=cs:=List.take_of_length_le (by have:=HCL.out;omega)
    rw[ht]
    obtain⟨y,hy⟩: ∃y,y=leW cs:=⟨_,rfl⟩
    rw[←hy]
    have hyw:y=wAt bs x.val:=by rw[hy,HCS.out];rfl
    have HYW:=hid hyw
    obtain⟨plen,hplen⟩: ∃plen,plen=pre.length:=⟨_,rfl⟩
    have hpl2:plen<131073:=by have h1:=HQ.out;have h2:=HM.out;unfold mayB at h2;simp at h2;omega
    have hown:=HI.out.own
    rw[List.length_map,←hplen] at hown
    have hbpv:pv<W5.heap.size∧pv∉ [m]∧m<W5.heap.size:=by have:=HB.out;simp;omega
    have z0:W.cell? ⟨pv,0,none⟩=some (ptrV m):=(HI.out.keep.cell (p:=⟨pv,0,none⟩) hbpv.1 hbpv.2.1).trans HPC.out
    have hW0:W5.heap.size≤W.heap.size:=HI.out.keep.size
    have zd0:W.drew.cell? ⟨pv,0,none⟩=some (ptrV m):=z0
    have zd1:(W.alloc (.cells #[.int .u64 y] 25)).drew.cell? ⟨pv,0,none⟩=some (ptrV m):=ca _ z0
    have zm0:W.drew.cell? ⟨m,1,none⟩=some v:=HI.out.blk.cell 1
    have zm1:(W.alloc (.cells #[.int .u64 y] 25)).drew.cell? ⟨m,1,none⟩=some v:=(HI.out.blk.alloc _).cell 1
    have hinfo:(Tryz.prog.info? 25).map (fun i=>(i.zero,i.size,i.bytes))=some (some (.int .u64 0),1,8):=by kernel_rfl
    obtain⟨i0,hi0,hz0,hz1,hz2⟩:=info_parts hinfo
    obtain⟨v',w9,hrun,hown9,hgr9,_,hob9⟩:=run_append_own_at (P:=Tryz.prog) ((W.alloc (.cells #[.int .u64 y] 25)).drew) W5.heap.size 22 22 25 i0 (.int .u64 0) 1 8 Tryz.underlying22 hi0 hz0 hz1 hz2 rfl (by decide) _ _ _ (hown.alloc (.cells #[.int .u64 y] 25)) ⟨W.heap.size,0,none⟩ 1 1 [.int .u64 y] rfl (World.news_of_block (Blk.new W 25 #[.int .u64 y])) (by simp[Value.oneCell']) (by unfold maxLen;omega) (by omega) (by simp;omega)
    obtain⟨va9,vc9,rfl⟩:=rowForm hown9
    have hnm:some m≠v.ownBlock:=fun e=>by
     have:=hown.2
     rcases this with⟨h1,_⟩ | ⟨g,cap',cur',h1,h2,_⟩
     ·rw[h1] at e;cases e
     ·rw[h1] at e
      simp[Value.ownBlock] at e
      omega
    have hnp:some pv≠v.ownBlock:=fun e=>by
     have:=hown.2
     rcases this with⟨h1,_⟩ | ⟨g,cap',cur',h1,h2,_⟩
     ·rw[h1] at e;cases e
     ·rw[h1] at e
      simp[Value.ownBlock] at e
      omega
    have hb9:Blk w9 m 124 #[.slice none 0 0,v,.map (some lb),.int .u64 0,.int .u64 0,.int .u64 0,.int .u64 0]:=((HI.out.blk.alloc (.cells #[.int .u64 y] 25)).drew).grown hgr9 hnm
    have zm9:w9.cell? ⟨m,1,none⟩=some v:=hb9.cell 1
    have zm9f:=hb9.frozen 1
    have zp9:w9.cell? ⟨pv,0,none⟩=some (ptrV m):=by
     rw[World.cell?_of_block (w:=(W.alloc (.cells #[.int .u64 y] 25)).drew) (a:=⟨pv,0,none⟩) (hgr9.block pv (by simp;omega) hnp)]
     exact zd1
    have hrun2:appRun Tryz.prog #[22,22] 22 #[v,.slice (some ⟨W.heap.size,0,none⟩) 1 1] ((W.alloc (.cells #[.int .u64 y] 25)).drew)= .ok (.slice va9 (plen+1) vc9) w9:=hrun
    clear hrun
    have zd2:(W.drew.alloc (.cells #[.int .u64 y] 25)).cell? ⟨pv,0,none⟩=some (ptrV m):=zd1
    have zm2:(W.drew.alloc (.cells #[.int .u64 y] 25)).cell? ⟨m,1,none⟩=some v:=zm1
    have HO9:=hid hown9
    have HG9:=hid hgr9
    have HB9:=hid hb9
    have HNM:=hid hnm
    have HNP:=hid hnp
    have HOB:=hid hob9
    have HOWN:=hid hown
    have HPL:=hid hplen
    have hW1:=hid hW0
    have HV:=hid hbpv
    clear hk hlt2 hyw hy HBY hown9 hgr9 hb9 hnm hnp hob9 hown hi0 hz0 hz1 hz2 hinfo hplen hpl2 hW0 hbpv hlt hxq
    gi_wp2_with fail
    refine share (X:= ?X) (fun key=> ?_) ?_
    rotate_left
    ·gi_region_with fail
     all_goals exact key.out
    gi_wp2
    have hst:=OfI.step (x:=x.val) (tmp:= .cells #[.int .u64 y] 25) HI.out (by have:=HB.out;omega) HV.out.2.2 hW1 (by have:=HB.out;omega) (va:=va9) (vc:=vc9) (by rw[List.length_map,←HPL.out,←HYW.out];exact HO9.out) HG9.out
    rw[List.length_map,←HPL.out] at hst
    refine⟨hst.1,hst.2.1,⟨_,by rw[List.map_append];exact hst.2.2⟩⟩
 case done=>
  rintro D xs W hD rfl ⟨v,hI⟩ hK
  have hbpv:pv<W5.heap.size∧pv∉ [m]∧m<W5.heap.size∧pv≠m:=by have:=HB.out;simp;omega
  have z0:W.drew.cell? ⟨pv,0,none⟩=some (ptrV m):=(hI.keep.cell (p:=⟨pv,0,none⟩) hbpv.1 hbpv.2.1).trans HPC.out
  have zm1:W.drew.cell? ⟨m,1,none⟩=some v:=hI.blk.cell 1
  have hown:=hI.own
  have hxl:((List.finRange q).map (·.val)).length=q:=by simp
  rw[hxl] at hown
  have HI:=hid hI
  have HOWN:=hid hown
  have hcl:Calls Tryz.prog 92 #[v] W.drew (FreshW W.drew q (((List.finRange q).map (·.val)).map fun x=> .int .u64 (wAt bs x))):=CloneW_row v q _ W.drew (rowZero hown) (by have h1:=HQ.out;have h2:=HM.out;unfold mayB at h2;simp at h2;omega) (by intro u hu;simp only[List.mem_map] at hu;obtain⟨y,_,rfl⟩:=hu;rfl)
  have HCL:=hid hcl
  have HV:=hid hbpv
  have hpm:pv≠m:=hbpv.2.2.2
  have hqn:q≤1000000:=by have h1:=HQ.out;have h2:=HM.out;unfold mayB at h2;simp at h2;omega
  clear hI hown hxl hbpv hcl
  have HK:=hid hK
  clear hK
  gi_wp2_with fail
  refine wpIn_mono (Q:=CalmP _) ?_ CalmP.imp
  gi_region_with (first
   | (refine⟨trivial,?_⟩;gi_at_call 92;refine(callsIn_wide.2 HCL.out).mono ?_;rintro e v1 ⟨v',rfl,hr,hb⟩;obtain⟨va,vc,rfl⟩:=rowForm hr;have HR:=hid hr;have HBB:=hid hb;have zp1:v1.cell? ⟨pv,0,none⟩=some (ptrV m):=ck z0 hb;have zm0:=(HI.out.blk.drew.bel hb).cell 0;have zm0f:=(HI.out.blk.drew.bel hb).frozen 0;clear hr hb))
  all_goals
   refine CalmP.normal ?_
   try go_simp
   try simp only[Act.put,List.setIfInBounds_toArray,List.set_cons_zero,List.set_cons_succ]
   gi_wp2
   have hbW:Below W.heap.size W v1:=⟨HBB.out.os,HBB.out.tape,HBB.out.output,HBB.out.size,HBB.out.block⟩
   obtain⟨⟨B,hmem,hft⟩,hbel,hkV⟩:=fresh_mem (D:=D) (o':= .deferred none) (by rw[←HN.out];exact HQ.out) (by have h1:=HQ.out;have h2:=HM.out;unfold mayB at h2;simp at h2;omega) (by have h1:=HQ.out;have h2:=HM.out;unfold mayB at h2;simp at h2;omega) HI.out (by have:=HB.out;omega) HV.out.2.2.1 (by have:=HB.out;omega) (by have:=HB.out;omega) (by have:=HB.out;omega) HBEL.out.size HMAP.out (Nat.le_refl _) hbW HR.out hD HK.out rfl rfl
   refine⟨by simp,.inl ⟨_,_,rfl,run_takeDeferred hkV,?_⟩⟩
   refine⟨_,?_,m,B,rfl,hmem,hbel,hft⟩
   simp[results,Tryz.results58,go_sem]
 case stop=>exact fun _ _ _ _ _ _ h=>h.elim
end
section
open Go.RowKit Go.Shelf
theorem MOf_z (p:Option Addr) (cap:Nat) (bs:List Int) (hm:mayB bs.length=true) (hcap:cap≤9223372036854775807) (w:World) (h:BytesIn w p cap bs):
  Calls Tryz.prog 58 #[.slice p bs.length cap] w fun e W'=> ∃(m:Nat) (B:MB),e= .returned (.tuple #[ptrV m,.int .i64 0])∧MemIs W' m B (freshM (wordsOf bs))∧Below w.heap.size w W'∧ ∀k∈footM m B (freshM (wordsOf bs)),w.heap.size≤k:=
 callsIn_wide.1 (Of_in p cap bs hm hcap w h)
end
end Go.Proofs.YtjmaicckkkdjpaaGreat
