import Derived.Test.YtjmaicckkkdjpaaGreatF48
import Derived.Sort.AssemblyPlain
import Derived.BigQuiet
import Derived.WalkMore
import Derived.Deep.DeepCutAuto
import Derived.Deep.CutBlock
import Derived.Lib.BitFns
import Derived.Lib.ItoaNum
import Derived.Lib.Strings
import Derived.Lib.Slices
import Derived.Lib.Small
import Derived.Lib.Walk
import Derived.Laws.Bits64b
import Derived.Sort.LotD5
import Derived.Sort.Row
import Derived.Deep.Cut
import Derived.Maps.AppendAt
import Derived.Deep.AppendLies
import Derived.Deep.RegionHeld3
set_option maxRecDepth 100000
set_option maxHeartbeats 2000000
set_option linter.unusedVariables false
set_option linter.unusedSimpArgs false
/- What a site is made of: questions of blocks, of a memory, of none; locks; a site. -/
namespace Go.Proofs.YtjmaicckkkdjpaaGreat
open Go.RowKit
def HasSlabs (w:World) (v:Value) (n:Nat):Prop:=(v= .pointer none∧n=0)∨ ∃(s:Nat) (g:Option Addr),v= .pointer (some ⟨s,0,none⟩)∧1≤n∧n≤64∧s<w.heap.size∧w.cell? ⟨s,1,none⟩=some (.slice g (1+n) (1+n))
theorem HasSlabs.bel {w w':World} {v:Value} {n:Nat} (h:HasSlabs w v n) (hb:Below w.heap.size w w'):HasSlabs w' v n:=by
 rcases h with h | ⟨s,g,h1,h2,h3,h4,h5⟩
 ·exact Or.inl h
 ·exact Or.inr ⟨s,g,h1,h2,h3,Nat.lt_of_lt_of_le h4 hb.size,(hb.cell (p:=⟨s,1,none⟩) h4).trans h5⟩
theorem HasSlabs.of {w:World} {N:Nat} {B:SB} {V:Nat→Value} {size:Int} {A:SA} {n:Nat} (h:SlabIs w N B V size A) (hl:A.hd.length=1+n) (hn:1≤n∧n≤64):HasSlabs w (.pointer (some ⟨B.s,0,none⟩)) n:=
 Or.inr ⟨B.s,_,rfl,hn.1,hn.2,h.st.lt,by have:=h.ch;rw[hl] at this;exact this⟩
theorem sthere_z (v:Value) (n:Nat) (w:World) (h:HasSlabs w v n):
  Calls Tryz.prog 108 #[v] w fun e w'=>e= .returned (.bool (decide (0<n)))∧w=w':=by
 rcases h with⟨rfl,rfl⟩ | ⟨s,g,rfl,h1,h2,h3,h4⟩
 ·go_enter Tryz.func108,Tryz.ntmps108
  go_wp2
  go_ret
  exact⟨by simp,rfl⟩
 ·obtain⟨q,hq⟩: ∃q,q=1+n:=⟨_,rfl⟩
  rw[←hq] at h4
  have i1:(q:Int)>0:=by omega
  have hd:decide (0<n)=true:=decide_eq_true (by omega)
  rw[hd]
  have i3:0<q:=by omega
  clear hq hd h2
  go_enter Tryz.func108,Tryz.ntmps108
  go_wp2
  go_ret
  exact⟨by simp[i3],rfl⟩
theorem Slabs_s (v:Value) (n:Nat) (w:World) (h:HasSlabs w v n):
  Calls Tryz.prog 105 #[v] w fun e w'=>e= .returned (.int .i64 (n:Int))∧w=w':=by
 have hT:=hid (sthere_z v n w h)
 rcases h with⟨rfl,rfl⟩ | ⟨s,g,rfl,h1,h2,h3,h4⟩
 ·go_enter Tryz.func105,Tryz.ntmps105
  go_wp2_with fail
  refine(hT.out).mono ?_
  rintro e w1 ⟨rfl,rfl⟩
  go_wp2
  go_ret
  exact⟨by simp,rfl⟩
 ·obtain⟨q,hq⟩: ∃q,q=1+n:=⟨_,rfl⟩
  rw[←hq] at h4
  have e1:(q:Int)-1=(n:Int):=by omega
  have j1:(n:Int)≤64:=by omega
  have j0:(0:Int)≤(n:Int):=by omega
  have hd:decide (0<n)=true:=decide_eq_true (by omega)
  rw[hd] at hT
  clear hq hd h2
  go_enter Tryz.func105,Tryz.ntmps105
  go_wp2_with fail
  refine(hT.out).mono ?_
  rintro e w1 ⟨rfl,rfl⟩
  go_wp2
  go_ret
  exact⟨rfl,rfl⟩
def HasMem (w:World) (v:Value) (z:Nat):Prop:=(v= .pointer none∧z=0)∨ ∃(m:Nat) (B:MB) (n:Nat) (s:St4),v= .pointer (some ⟨m,0,none⟩)∧0<n∧n≤131072∧z=8*n∧Blk w m 124 (memC B n s)
theorem HasMem.bel {w w':World} {v:Value} {z:Nat} (h:HasMem w v z) (hb:Below w.heap.size w w'):HasMem w' v z:=by
 rcases h with h | ⟨m,B,n,s,h1,h2,h3,h4,h5⟩
 ·exact Or.inl h
 ·exact Or.inr ⟨m,B,n,s,h1,h2,h3,h4,h5.bel hb⟩
theorem mthere_nil (w:World):Calls Tryz.prog 45 #[.pointer none] w fun e w'=>e= .returned (.bool false)∧w=w':=by
 go_enter Tryz.func45,Tryz.ntmps45
 go_wp2
 go_ret
 exact⟨rfl,rfl⟩
theorem MSize_z (v:Value) (z:Nat) (w:World) (h:HasMem w v z):
  Calls Tryz.prog 104 #[v] w fun e w'=>e= .returned (.int .i64 (z:Int))∧w=w':=by
 rcases h with⟨rfl,rfl⟩ | ⟨m,B,n,s,rfl,h1,h2,rfl,h3⟩
 ·go_enter Tryz.func104,Tryz.ntmps104
  go_wp2_with fail
  refine(mthere_nil _).mono ?_
  rintro e w1 ⟨rfl,rfl⟩
  go_wp2
  go_ret
  exact⟨by simp,rfl⟩
 ·exact Size_m m B n s h1 h2 w h3
structure SiteAt (w:World) (x:Nat) (mv sv:Value) (t:Nat) (c:Int):Prop where
 blk:Blk w x 219 #[mv,sv,.pointer (some ⟨t,0,none⟩)]
 tab:w.cell? ⟨t,0,none⟩=some (.int .i64 c)
 tlt:t<w.heap.size
 pos:1≤c∧c≤64
end Go.Proofs.YtjmaicckkkdjpaaGreat
/- A row of addresses sorted: how it lies in memory; less; insertion. -/
namespace Go.Proofs.YtjmaicckkkdjpaaGreat
open Go.RowKit
section
open Go.Sort (swp insInner insOuter insertionSort ltInt SWO PermIn SortedIn)
section
variable {w w':World} {g n:Nat} {d:Array Int} {tl:List Value}
end
section
variable (lt:Int→Int→Bool)
end
end
section
open Go.Sort (swp insInner insOuter insertionSort ltInt SWO PermIn SortedIn siftDown heapBuild heapPop heapSort reverseLoop reverseRange)
end
section
open Go.Sort (swp insInner insOuter insertionSort ltInt SWO PermIn SortedIn siftDown heapBuild heapPop heapSort reverseLoop reverseRange)
end
section
open Go.Sort (swp ltInt scanUp scanDown partEqLoop partitionEqual partLoop partition)
end
section
open Go.Sort (swp ltInt scanUp scanDown partLoop partition)
end
end Go.Proofs.YtjmaicckkkdjpaaGreat
/- A row of addresses sorted: a few out of place. -/
namespace Go.Proofs.YtjmaicckkkdjpaaGreat
open Go.RowKit
section
open Go.Sort (swp ltInt scanSorted shiftDown shiftUp fixDown fixUp partialIns partialInsertionSort)
end
section
open Go.Sort (swp ltInt)
end
section
open Go.Sort (swp ltInt PermIn permIn_refl permIn_trans swp_permIn)
end
section
open Go.Sort (swp ltInt PermIn SortedIn permIn_refl permIn_trans swp_permIn permIn_mono swo_ltInt insertionSort insertionSort_holds heapSort heapSort_holds reverseRange reverseRange_holds partialInsertionSort partialInsertionSort_holds partition partition_holds partitionEqual partitionEqual_holds round_eq round_part)
section
variable {w0 wr wr':World} {g n:Nat} {tl:List Value} {d0 dk dk':Array Int} {a0 b0 a b:Nat}
end
end
end Go.Proofs.YtjmaicckkkdjpaaGreat
/- Locks: what a table is; is there such a client, for what does it wait, who has a lock. -/
namespace Go.Proofs.YtjmaicckkkdjpaaGreat
open Go.RowKit
def tabC (c:Int) (mb:Nat) (ws:List Int):Array Value:=(Value.int .i64 c:: .map (some mb)::ws.map (Value.int .u64)).toArray
structure TabIs (w:World) (t mb:Nat) (c:Int) (has:List (Int×Int)) (ws:List Int):Prop where
 blk:Blk w t 255 (tabC c mb ws)
 mp: ∃es clock,w.heap[mb]?=some (.map es clock)∧es.toList.map viewE=has.map isV∧BornOK es.toList clock
 pos:1≤c∧c≤64
 len:ws.length=64
 ne:t≠mb
theorem TabIs.cc {w:World} {t mb:Nat} {c:Int} {has:List (Int×Int)} {ws:List Int} (h:TabIs w t mb c has ws):w.cell? ⟨t,0,none⟩=some (.int .i64 c):=h.blk.cell 0
theorem TabIs.lt {w:World} {t mb:Nat} {c:Int} {has:List (Int×Int)} {ws:List Int} (h:TabIs w t mb c has ws):t<w.heap.size∧mb<w.heap.size:=by
 obtain⟨es,cl,h1,_⟩:=h.mp
 exact⟨h.blk.lt,(Array.getElem?_eq_some_iff.1 h1).1⟩
theorem TabIs.only {w w':World} {t mb:Nat} {c:Int} {has:List (Int×Int)} {ws:List Int} {fs:List Nat} (h:TabIs w t mb c has ws) (ho:Only fs w w') (h1:t∉fs) (h2:mb∉fs):TabIs w' t mb c has ws:=by
 obtain⟨es,cl,q1,q2⟩:=h.mp
 exact⟨ho.blk h.blk h1,⟨es,cl,(ho.block mb h.lt.2 h2).trans q1,q2⟩,h.pos,h.len,h.ne⟩
end Go.Proofs.YtjmaicckkkdjpaaGreat
/- Rows of addresses of one's own: how they look; sorted. -/
namespace Go.Proofs.YtjmaicckkkdjpaaGreat
open Go.RowKit Go.Shelf
theorem infoAddr:(Tryz.prog.info? 62).map (fun i=>(i.zero,i.size,i.bytes))=some (some (.int .u64 0),1,8):=by kernel_rfl
theorem row_form1 {w:World} {base:Nat} {e:TypeId} {size:Nat} {v:Value} {n:Nat} {xs:List Value} (h:w.ownsRow base e size v n xs): ∃a c,v= .slice a n c:=by
 rcases h.2 with⟨rfl,rfl⟩ | ⟨g,cap,cur,rfl,_⟩
 ·exact⟨_,_,rfl⟩
 ·exact⟨_,_,rfl⟩
end Go.Proofs.YtjmaicckkkdjpaaGreat
/- Locks: one given back. -/
namespace Go.Proofs.YtjmaicckkkdjpaaGreat
open Go.RowKit
end Go.Proofs.YtjmaicckkkdjpaaGreat
/- Locks: one tried for. -/
namespace Go.Proofs.YtjmaicckkkdjpaaGreat
open Go.RowKit
end Go.Proofs.YtjmaicckkkdjpaaGreat
/- Locks: Tryz. -/
namespace Go.Proofs.YtjmaicckkkdjpaaGreat
open Go.RowKit
end Go.Proofs.YtjmaicckkkdjpaaGreat
/- Locks: those that one has, gone over. -/
namespace Go.Proofs.YtjmaicckkkdjpaaGreat
open Go.RowKit Go.Shelf
attribute [local go_sem] Oper.semAt_some
end Go.Proofs.YtjmaicckkkdjpaaGreat
/- slices.Clone of addresses (cut out of XOpN, for seats without open). -/
namespace Go.Proofs.YtjmaicckkkdjpaaGreat
open Go.RowKit
theorem adPg (b off j:Nat):(⟨b,off,none⟩:Addr).add j=⟨b,off+j,none⟩:=by
 cases j<;>simp[Addr.add]
@[go_sem] theorem eqNilAdrG (a:Option Addr) (n c:Nat) (w:World):(binOp .eql 34 (.slice a n c) (.slice none 0 0)).run Tryz.prog w= .ok (.bool a.isNone) w:=by
 simp[binOp,run_equal_slice_nil w 34 62 a n c Tryz.underlying34]
theorem CloneA_g (v:Value) (xs:List Int) (w:World) (h:NumsAt .u64 w v xs) (hn:xs.length≤1000000):
  Calls Tryz.prog 183 #[v] w fun e w'=> ∃v',e= .returned v'∧w'.ownsRow w.heap.size 62 1 v' xs.length (xs.map (Value.int .u64))∧Below w.heap.size w w':=by
 obtain⟨ao,cap,rfl,h2⟩:=h
 obtain⟨n,hnn⟩: ∃n,n=xs.length:=⟨_,rfl⟩
 rw[←hnn]
 cases ao with
 | none=>
  have hx:xs=[]:=h2.resolve_right (by rintro⟨b,off,h,_⟩;cases h)
  have h0:n=0:=by rw[hnn,hx];rfl
  subst hx h0
  clear h2 hnn hn
  go_enter Tryz.func183,Tryz.ntmps183
  go_wp2
  go_ret
  exact⟨_,rfl,World.ownsRow_nil _ _ _ _,Below.refl _ _⟩
 | some p=>
  obtain⟨i0,hi,hz0,hz1,hz2⟩:=info_parts infoAddr
  have hnews: ∀j u,(xs.map (Value.int .u64))[j]?=some u→(w.alloc (.cells #[] 62)).cell? (p.add j)=some u:=by
   intro j u hj
   rw[List.getElem?_map] at hj
   obtain⟨x,hx,rfl⟩:=Option.map_eq_some_iff.1 hj
   rcases h2 with h2 | ⟨b,off,hp,_,h5⟩
   ·rw[h2] at hx;simp at hx
   ·injection hp with hp
    rw[hp]
    have h9:=ca (.cells #[] 62) (h5 j x hx)
    rw[adPg];exact h9
  have H3:=hid (show 0+n≤maxLen by unfold maxLen;omega)
  have H4:=hid (show(0+n)*8≤140737488355328 by omega)
  have HL:=hid (show(xs.map (Value.int .u64)).length=n*1 by rw[List.length_map,←hnn,Nat.mul_one])
  have HO:=hid (show ∀v∈xs.map (Value.int .u64),v.oneCell'=true by
   intro u hu
   obtain⟨y,_,rfl⟩:=List.mem_map.1 hu
   rfl)
  have HN:=hid hnews
  have HNN:=hid hnn
  have hempty:(w.alloc (.cells #[] 62)).ownsRow w.heap.size 62 1 (.slice (some ⟨w.heap.size,0,none⟩) 0 0) 0 []:=by
   have:=World.ownsRow_lit (base:=w.heap.size) (e:=62) (size:=1) w #[] 0 (Nat.le_refl _) (Nat.zero_le _) rfl
   simpa using this
  have HE:=hid hempty
  clear hempty hnews h2 hnn hn
  go_enter Tryz.func183,Tryz.ntmps183
  go_wp2_with (at_builtin;refine wpList_append_own_at _ rfl _ _ 34 rfl w.heap.size 62 i0 (.int .u64 0) 1 8 Tryz.underlying34 hi hz0 hz1 hz2 rfl (by decide) (.slice (some ⟨w.heap.size,0,none⟩) 0 0) 0 [] rfl HE.out p n cap _ rfl HL.out HN.out HO.out H3.out H4.out (by simp) ?_;intro v' w1 hown' hgrow _ hat)
  go_ret
  refine⟨_,rfl,by have h9:=hown';rw[Nat.zero_add,List.nil_append,HNN.out] at h9;rw[HNN.out] at*;exact h9,?_⟩
  exact((Below.refl _ w).alloc (Nat.le_refl _) _).grown hgrow (by simp) (fun k hk=>by
   have:w.heap.size=k:=by simpa[Value.ownBlock] using hk
   omega)
end Go.Proofs.YtjmaicckkkdjpaaGreat
/- A memory of words: its image's bytes. -/
namespace Go.Proofs.YtjmaicckkkdjpaaGreat
open Go.RowKit
attribute [local go_sem ↓ high] append_shut2
attribute [local go_sem] appM2_run
def wB (x:Int):List Int:=(List.range 8).map fun j=>x/256^j % 256
def bytesW (ws:List Int):List Int:=ws.flatMap wB
theorem wB_len (x:Int):(wB x).length=8:=rfl
theorem bytesW_len (ws:List Int):(bytesW ws).length=8*ws.length:=by
 unfold bytesW
 induction ws with
 | nil=>rfl
 | cons x ws ih=>rw[List.flatMap_cons,List.length_append,ih,wB_len,List.length_cons];omega
theorem bytesW_snoc (ws:List Int) (x:Int):bytesW (ws++[x])=bytesW ws++wB x:=by
 unfold bytesW;rw[List.flatMap_append];simp
theorem bytesW_byte (ws:List Int): ∀x∈bytesW ws,0≤x∧x<256:=by
 intro x hx
 obtain⟨y,_,hy⟩:=List.mem_flatMap.1 hx
 unfold wB at hy
 obtain⟨j,_,rfl⟩:=List.mem_map.1 hy
 exact⟨Int.emod_nonneg _ (by decide),Int.emod_lt_of_pos _ (by decide)⟩
theorem info_u8':(Tryz.prog.info? 5).map (fun i=>(i.zero,i.size,i.bytes))=some (some (.int .u8 0),1,1):=by kernel_rfl
theorem run_bytes (n:Nat) (hn:n≤131072) (w:World):(Instr.makeSlice 47 (.int .i64 0) (.int .i64 (8*(n:Int)))).run Tryz.prog w= .ok (.slice (some ⟨w.heap.size,0,none⟩) 0 (8*n)) (w.alloc (.cells (madeCells #[.int .u8 0] (8*n)) 5)):=by
 obtain⟨i,h1,h2,h3,h4⟩:=info_parts info_u8'
 have:=run_make (P:=Tryz.prog) w 47 5 i _ Tryz.underlying47 h1 h2 .i64 .i64 0 (8*(n:Int)) (by omega) (by omega) (by rw[h4];omega) (by omega)
 rw[show(8*(n:Int)).toNat=8*n by omega,h3] at this
 rw[this]
 show Result.ok _ (w.alloc (.cells (madeCells #[Value.int .u8 0] (8*n*1)) _))=_
 rw[Nat.mul_one]
 rfl
structure BytP (w:World) (ws:List Int) (k j:Nat) (v:Value) (W:World):Prop where
 row:W.ownsRow w.heap.size 5 1 v (8*k+j) ((bytesW (ws.take k)++(wB ((ws[k]?).getD 0)).take j).map (Value.int .u8))
 bel:Below w.heap.size w W
theorem BytP.next {w:World} {ws:List Int} {k:Nat} {v:Value} {W:World} (h:BytP w ws k 8 v W) {x:Int} (hx:ws[k]?=some x):BytP w ws (k+1) 0 v W:=by
 refine⟨?_,h.bel⟩
 have:=h.row
 rw[hx,Option.getD_some,show(wB x).take 8=wB x from rfl,←bytesW_snoc] at this
 obtain⟨hl,he⟩:=List.getElem?_eq_some_iff.1 hx
 rw[←he,←List.take_succ_eq_append_getElem hl] at this
 rw[List.take_zero,List.append_nil,show 8*(k+1)+0=8*k+8 by omega]
 exact this
theorem wB_take (x:Int) (j:Nat) (hj:j<8):(wB x).take (j+1)=(wB x).take j++[x/256^j % 256]:=by
 rcases(by omega:j=0∨j=1∨j=2∨j=3∨j=4∨j=5∨j=6∨j=7) with rfl | rfl | rfl | rfl | rfl | rfl | rfl | rfl<;>rfl
theorem BytP.app {w:World} {ws:List Int} {k j:Nat} {a:Option Addr} {c:Nat} {W:World} {x y:Int} (h:BytP w ws k j (.slice a (8*k+j) c) W) (hj:j<8) (hx:ws[k]?=some x) (hk:8*k+j+1≤1048576) (hy:y=x/256^j % 256):
  ∃a' c' w',appRun2 Tryz.prog #[47,47] 47 #[.slice a (8*k+j) c,.slice (some ⟨W.heap.size,0,none⟩) 1 1] (W.alloc (.cells #[.int .u8 y] 5))= .ok (.slice a' (8*k+j+1) c') w'∧BytP w ws k (j+1) (.slice a' (8*k+j+1) c') w':=by
 obtain⟨i0,hi0,hz0,hz1,hz2⟩:=info_parts info_u8'
 obtain⟨W1,hW1⟩: ∃W1,W1=W.alloc (.cells #[.int .u8 y] 5):=⟨_,rfl⟩
 have hb1:Below W.heap.size W W1:=by rw[hW1];exact ba (Below.refl _ _) _
 have hr:W1.ownsRow w.heap.size 5 1 (.slice a (8*k+j) c) (8*k+j) ((bytesW (ws.take k)++(wB ((ws[k]?).getD 0)).take j).map (Value.int .u8)):=by rw[hW1];exact h.row.alloc _
 have hn:NewsAt W1 (.slice (some ⟨W.heap.size,0,none⟩) 1 1) 1 [.int .u8 y]:=Or.inr ⟨W.heap.size,0,1,rfl,fun i u hi=>by
  rw[hW1,(Blk.new W 5 #[.int .u8 y]).cell (0+i),Nat.zero_add]
  simpa using hi⟩
 have hs:=h.bel.size
 rw[←hW1]
 obtain⟨v',w',q⟩:=run_app (P:=Tryz.prog) W1 w.heap.size 47 47 5 i0 _ 1 1 Tryz.underlying47 hi0 hz0 hz1 hz2 rfl (by decide) (.slice a (8*k+j) c) (8*k+j) _ hr _ 1 _ hn rfl (by
  intro u hu
  rw[List.mem_singleton.1 hu];rfl) (by unfold maxLen;omega) (by omega) (Nat.le_trans hs hb1.size)
 obtain⟨a',c',rfl⟩:=row_form1 q.own
 refine⟨a',c',w',q.run,?_,?_⟩
 ·have:=q.own
  rw[hx,Option.getD_some] at this
  rw[hx,Option.getD_some,wB_take x j hj,←hy,←List.append_assoc,List.map_append]
  exact this
 ·have ho:=Only.of_grown (f:=(Value.slice a (8*k+j) c).ownBlock.toList) q.grown (fun k hk=>by simp[hk])
  exact(h.bel.trans (hb1.mono hs)).trans (ho.below (fun y hy=>own_base h.row y (by simpa using hy)) (Nat.le_trans hs hb1.size))
theorem bytes_z (b cap:Nat) (ws:List Int) (w:World) (h:WrdsAt w b ws) (hn:0<ws.length) (hl:ws.length≤131072) (hr: ∀x∈ws,0≤x∧x<18446744073709551616):
  Calls Tryz.prog 46 #[.slice (some ⟨b,0,none⟩) ws.length cap] w fun e w'=> ∃p c,e= .returned (.slice p (bytesW ws).length c)∧BytesIn w' p c (bytesW ws)∧c≤maxLen∧Below w.heap.size w w':=by
 obtain⟨n,hn'⟩: ∃n,n=ws.length:=⟨_,rfl⟩
 rw[←hn'] at hn hl ⊢
 have hmul:IntKind.i64.wrap (8*(n:Int))=8*(n:Int):=IntWalk.i64_in _ ⟨by omega,by omega⟩
 have hmk:=run_bytes n hl w
 obtain⟨W0,hW0⟩: ∃W0,W0=w.alloc (.cells (madeCells #[Value.int .u8 0] (8*n)) 5):=⟨_,rfl⟩
 have hI0:BytP w ws 0 0 (.slice (some ⟨w.heap.size,0,none⟩) 0 (8*n)) W0:=by
  rw[hW0]
  exact⟨World.ownsRow_made w _ (8*n) (Nat.le_refl _) (by unfold maxLen;omega) (by rw[size_madeCells];simp),ba (Below.refl _ _) _⟩
 rw[←hW0] at hmk
 have HI0:=hid hI0
 have HN:=hid hn'
 have H:=hid h
 have HR:=hid hr
 clear h hr hn' hI0 hW0
 go_enter Tryz.func46,Tryz.ntmps46
 go_wp2
 go_loopw [3,12] (fun gv i wr=> ∃k:Nat,k≤n∧i= .int .i64 k∧Hid (BytP w ws k 0 gv wr)) (fun _ i _=>(n- (intOf i).toNat))
 case atStart=>exact⟨0,by omega,rfl,HI0⟩
 case round=>
  obtain⟨k,hk,rfl,hI⟩:=hrel
  by_cases hlt:k<n
  ·have i1:(k:Int)< (n:Int):=by omega
   have i0:(0:Int)≤(k:Int):=by omega
   obtain⟨x,hx⟩: ∃x,ws[k]?=some x:=⟨_,List.getElem?_eq_getElem (by rw[←HN.out];exact hlt)⟩
   have yx:=(H.out.cell hx)
   have yx':wr.cell? ⟨b,k,none⟩=some (.int .u64 x):=(hI.out.bel.cell (p:=⟨b,k,none⟩) (World.block_lt_of_cell? w _ yx)).trans yx
   have HX:=hid hx
   have HLT:=hid hlt
   clear hx hlt hk yx
   go_wp2
   go_loopw [3,5,16] (fun gv wv i wr=> ∃j:Nat,j≤8∧i= .int .i64 j∧wv= .int .u64 (x/256^j)∧Hid (BytP w ws k j gv wr)) (fun _ _ i _=>(8- (intOf i).toNat))
   case atStart=>exact⟨0,by omega,rfl,by simp,hI⟩
   case round=>
    obtain⟨j,hj,rfl,rfl,hJ⟩:=hrel
    by_cases hj8:j<8
    ·have j1:(j:Int)<8:=by omega
     have f3: ∃a c,u3=Value.slice a (8*k+j) c:=row_form1 hJ.out.row
     obtain⟨va,vc,rfl⟩:=f3
     obtain⟨y,hy⟩: ∃y,y=x/256^j:=⟨_,rfl⟩
     rw[←hy]
     have hyr:0≤y∧y<18446744073709551616:=by
      have hxr:=HR.out x (List.mem_of_getElem? HX.out)
      have hp:(0:Int)<256^j:=Int.pow_pos (by decide)
      rw[hy]
      exact⟨Int.ediv_nonneg hxr.1 (by omega),Int.lt_of_le_of_lt (Int.ediv_le_self _ hxr.1) hxr.2⟩
     obtain⟨a',c',w',hrun,hJ'⟩:=hJ.out.app hj8 HX.out (by omega) (y:=y % 256) (by rw[←hy])
     have HJ':=hid hJ'
     have HY:=hid hy
     have H8:=hid hj8
     clear hy hj8 hj hJ'
     go_wp2
     have he:y/256=x/256^ (j+1):=by rw[HY.out,Int.pow_succ,Int.ediv_ediv_of_nonneg (Int.le_of_lt (Int.pow_pos (by decide)))]
     refine⟨⟨j+1,H8.out,by go_num,by rw[he],HJ'⟩,by simp[intOf];have:=H8.out;omega⟩
    ·obtain rfl:j=8:=by omega
     have hJ9:=hid (hJ.out.next HX.out)
     clear hJ hj8 hj
     go_wp2
     go_roundw
     case rel=>exact⟨k+1,HLT.out,by go_num,hJ9⟩
     case measure=>simp[intOf];have:=HLT.out;omega
  ·obtain rfl:k=n:=by omega
   have i1: ¬(k:Int)< (k:Int):=by omega
   clear hlt hk
   go_wp2
   go_ret
   have hr:=hI.out.row
   rw[List.take_zero,List.append_nil,HN.out,List.take_length,Nat.add_zero,←bytesW_len] at hr
   have hbel:=hI.out.bel
   have hfin: ∃p c,u3=Value.slice p (bytesW ws).length c∧BytesIn wr p c (bytesW ws)∧c≤maxLen:=by
    rcases hr.2 with⟨hv,h0⟩ | ⟨q,cp,cur,hv,q2,q3,q4,q5,q6,q7⟩
    ·rw[bytesW_len,←HN.out] at h0;omega
    ·refine⟨some ⟨q,0,none⟩,cp,hv,⟨q4,bytesW_byte ws,fun _=>⟨q,0,rfl,(Array.getElem?_eq_some_iff.1 q3).1,fun i x hi=> ?_⟩⟩,q5⟩
     have hc:Blk wr q _ cur:=q3
     rw[hc.cell,Nat.zero_add,←Array.getElem?_toList]
     have hl:=(List.getElem?_eq_some_iff.1 hi).1
     have:(cur.toList.take ((bytesW ws).length*1))[i]?=some (.int .u8 x):=by rw[q7,List.getElem?_map,hi];rfl
     rw[List.getElem?_take,if_pos (by omega)] at this
     exact this
   obtain⟨p,c,hv,hb,hc⟩:=hfin
   exact⟨p,c,congrArg Ending.returned hv,hb,hc,hbel⟩
theorem Image_z (m:Nat) (B:MB) (M:MemS) (w:World) (h:MemIs w m B M) (hr: ∀x∈M.image,0≤x∧x<18446744073709551616):
  Calls Tryz.prog 21 #[.pointer (some ⟨m,0,none⟩)] w fun e w'=> ∃p c,e= .returned (.slice p (bytesW M.image).length c)∧BytesIn w' p c (bytesW M.image)∧c≤maxLen∧Below w.heap.size w w':=by
 have HT:=hid (there_z m B M.view.length M.st h.pos w h.blk)
 have HB:=hid (fun cap=>bytes_z B.ib cap M.image w h.image (by rw[h.len];exact h.pos) (by rw[h.len];exact h.big) hr)
 have y1:w.cell? ⟨m,1,none⟩=some (.slice (some ⟨B.ib,0,none⟩) M.image.length B.ic):=by rw[h.len];exact h.blk.cell 1
 obtain⟨n,hn⟩: ∃n,n=M.image.length:=⟨_,rfl⟩
 rw[←hn] at y1 HB
 clear h hr hn
 go_enter Tryz.func21,Tryz.ntmps21
 go_wp2_with fail
 refine HT.out.mono ?_
 rintro e w1 ⟨rfl,rfl⟩
 go_wp2_with fail
 refine(HB.out _).mono ?_
 rintro e w2 ⟨p,c,rfl,h1,h2,h3⟩
 have HF:=hid (⟨h1,h2,h3⟩:_∧_∧_)
 clear h1 h2 h3
 go_wp2
 go_ret
 exact⟨p,c,rfl,HF.out.1,HF.out.2.1,HF.out.2.2⟩
end Go.Proofs.YtjmaicckkkdjpaaGreat
