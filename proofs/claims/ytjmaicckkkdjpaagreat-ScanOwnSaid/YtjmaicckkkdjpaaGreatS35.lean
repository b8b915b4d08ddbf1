import Derived.Sort.AssemblyPlain
import Derived.BigQuiet
import Derived.WalkMore
import Derived.Deep.DeepCutAuto
import Derived.Deep.CutBlock
import Derived.Lib.BitFns
import Derived.Lib.ItoaNum
import Derived.Lib.Strings
import Derived.Lib.Slices
import Derived.Lib.Small
import Derived.Lib.Walk
import Derived.Laws.Bits64b
import Derived.Sort.LotD5
import Derived.Sort.Row
import Derived.Deep.Cut
import Derived.Maps.AppendAt
import Derived.Deep.AppendLies
import Derived.Test.YtjmaicckkkdjpaaGreatS29
import Derived.Deep.RegionHeld3
import Derived.Laws.BytesString
import Derived.Laws.BytesArg
set_option maxRecDepth 100000
set_option maxHeartbeats 2000000
set_option linter.unusedVariables false
set_option linter.unusedSimpArgs false
/- A row of addresses sorted: how it lies in memory; less; insertion. -/
namespace Go.Proofs.YtjmaicckkkdjpaaGreat
open Go.RowKit
section
open Go.Sort (swp insInner insOuter insertionSort ltInt SWO PermIn SortedIn)
section
variable {w w':World} {g n:Nat} {d:Array Int} {tl:List Value}
end
section
variable (lt:Int→Int→Bool)
end
end
section
open Go.Sort (swp insInner insOuter insertionSort ltInt SWO PermIn SortedIn siftDown heapBuild heapPop heapSort reverseLoop reverseRange)
end
section
open Go.Sort (swp insInner insOuter insertionSort ltInt SWO PermIn SortedIn siftDown heapBuild heapPop heapSort reverseLoop reverseRange)
end
section
open Go.Sort (swp ltInt scanUp scanDown partEqLoop partitionEqual partLoop partition)
end
section
open Go.Sort (swp ltInt scanUp scanDown partLoop partition)
end
end Go.Proofs.YtjmaicckkkdjpaaGreat
/- A row of addresses sorted: a few out of place. -/
namespace Go.Proofs.YtjmaicckkkdjpaaGreat
open Go.RowKit
section
open Go.Sort (swp ltInt scanSorted shiftDown shiftUp fixDown fixUp partialIns partialInsertionSort)
end
section
open Go.Sort (swp ltInt)
end
section
open Go.Sort (swp ltInt PermIn permIn_refl permIn_trans swp_permIn)
end
section
open Go.Sort (swp ltInt PermIn SortedIn permIn_refl permIn_trans swp_permIn permIn_mono swo_ltInt insertionSort insertionSort_holds heapSort heapSort_holds reverseRange reverseRange_holds partialInsertionSort partialInsertionSort_holds partition partition_holds partitionEqual partitionEqual_holds round_eq round_part)
section
variable {w0 wr wr':World} {g n:Nat} {tl:List Value} {d0 dk dk':Array Int} {a0 b0 a b:Nat}
end
end
end Go.Proofs.YtjmaicckkkdjpaaGreat
/- Contracts of the references' words and bits: Take, Has, Put. -/
namespace Go.Proofs.YtjmaicckkkdjpaaGreat
open Go.RowKit
theorem own_base {w:World} {base:Nat} {e:TypeId} {size n:Nat} {v:Value} {xs:List Value} (h:w.ownsRow base e size v n xs): ∀k,v.ownBlock=some k→base≤k:=by
 intro k hk
 rcases h.2 with⟨h1,_⟩ | ⟨g,cap,cur,h1,h2,_⟩
 ·rw[h1] at hk;cases hk
 ·rw[h1] at hk
  have:g=k:=by simpa[Value.ownBlock] using hk
  omega
def byteN (n j:Nat):Int:=((n/256^j % 256:Nat):Int)
theorem byteN_le (n j:Nat):0≤byteN n j∧byteN n j<256:=by
 unfold byteN
 have:=Nat.mod_lt (n/256^j) (show 0<256 by omega)
 omega
theorem pow_256 (k:Nat):(2:Int)^ (8*k)=((256^k:Nat):Int):=by
 rw[Int.pow_mul,Int.natCast_pow]
 rfl
theorem leW_bytes (n:Nat): ∀k,leW ((List.range k).map (byteN n))=((n % 256^k:Nat):Int)
 | 0=>by
  show(0:Int)=((n % 256^0:Nat):Int)
  rw[Nat.pow_zero,Nat.mod_one];rfl
 | k+1=>by
  rw[List.range_succ,List.map_append,List.map_singleton,leW_snoc,leW_bytes n k,Nat.mod_pow_succ]
  rw[List.length_map,List.length_range,pow_256]
  unfold byteN
  rw[Int.natCast_add,Int.natCast_mul,Int.mul_comm]
theorem leW_word {n:Nat} (hn:n<18446744073709551616):leW ((List.range 8).map (byteN n))=(n:Int):=by
 rw[leW_bytes,Nat.mod_eq_of_lt (by exact hn)]
def putC (n i:Nat):Array Value:=((List.range 8).map fun j=>if j<i then Value.int .u8 (byteN n j) else .int .u8 0).toArray
theorem putC_succ (n i:Nat) (hi:i<8):(putC n i).setIfInBounds i (.int .u8 (byteN n i))=putC n (i+1):=by
 have:i=0∨i=1∨i=2∨i=3∨i=4∨i=5∨i=6∨i=7:=by omega
 rcases this with rfl | rfl | rfl | rfl | rfl | rfl | rfl | rfl<;>rfl
def putV (n:Nat):Value:= .agg #[.int .u8 (byteN n 0),.int .u8 (byteN n 1),.int .u8 (byteN n 2),.int .u8 (byteN n 3),.int .u8 (byteN n 4),.int .u8 (byteN n 5),.int .u8 (byteN n 6),.int .u8 (byteN n 7)]
end Go.Proofs.YtjmaicckkkdjpaaGreat
/- Rows of addresses of one's own: how they look; sorted. -/
namespace Go.Proofs.YtjmaicckkkdjpaaGreat
open Go.RowKit Go.Shelf
theorem infoAddr:(Tryz.prog.info? 62).map (fun i=>(i.zero,i.size,i.bytes))=some (some (.int .u64 0),1,8):=by kernel_rfl
theorem row_form1 {w:World} {base:Nat} {e:TypeId} {size:Nat} {v:Value} {n:Nat} {xs:List Value} (h:w.ownsRow base e size v n xs): ∃a c,v= .slice a n c:=by
 rcases h.2 with⟨rfl,rfl⟩ | ⟨g,cap,cur,rfl,_⟩
 ·exact⟨_,_,rfl⟩
 ·exact⟨_,_,rfl⟩
end Go.Proofs.YtjmaicckkkdjpaaGreat
/- A memory of words: its image's bytes. -/
namespace Go.Proofs.YtjmaicckkkdjpaaGreat
open Go.RowKit
attribute [local go_sem ↓ high] append_shut2
attribute [local go_sem] appM2_run
def wB (x:Int):List Int:=(List.range 8).map fun j=>x/256^j % 256
end Go.Proofs.YtjmaicckkkdjpaaGreat
/- slices.Clone of addresses (cut out of XOpN, for seats without open). -/
namespace Go.Proofs.YtjmaicckkkdjpaaGreat
open Go.RowKit
theorem adPg (b off j:Nat):(⟨b,off,none⟩:Addr).add j=⟨b,off+j,none⟩:=by
 cases j<;>simp[Addr.add]
@[go_sem] theorem eqNilAdrG (a:Option Addr) (n c:Nat) (w:World):(binOp .eql 34 (.slice a n c) (.slice none 0 0)).run Tryz.prog w= .ok (.bool a.isNone) w:=by
 simp[binOp,run_equal_slice_nil w 34 62 a n c Tryz.underlying34]
theorem CloneA_g (v:Value) (xs:List Int) (w:World) (h:NumsAt .u64 w v xs) (hn:xs.length≤1000000):
  Calls Tryz.prog 183 #[v] w fun e w'=> ∃v',e= .returned v'∧w'.ownsRow w.heap.size 62 1 v' xs.length (xs.map (Value.int .u64))∧Below w.heap.size w w':=by
 obtain⟨ao,cap,rfl,h2⟩:=h
 obtain⟨n,hnn⟩: ∃n,n=xs.length:=⟨_,rfl⟩
 rw[←hnn]
 cases ao with
 | none=>
  have hx:xs=[]:=h2.resolve_right (by rintro⟨b,off,h,_⟩;cases h)
  have h0:n=0:=by rw[hnn,hx];rfl
  subst hx h0
  clear h2 hnn hn
  go_enter Tryz.func183,Tryz.ntmps183
  go_wp2
  go_ret
  exact⟨_,rfl,World.ownsRow_nil _ _ _ _,Below.refl _ _⟩
 | some p=>
  obtain⟨i0,hi,hz0,hz1,hz2⟩:=info_parts infoAddr
  have hnews: ∀j u,(xs.map (Value.int .u64))[j]?=some u→(w.alloc (.cells #[] 62)).cell? (p.add j)=some u:=by
   intro j u hj
   rw[List.getElem?_map] at hj
   obtain⟨x,hx,rfl⟩:=Option.map_eq_some_iff.1 hj
   rcases h2 with h2 | ⟨b,off,hp,_,h5⟩
   ·rw[h2] at hx;simp at hx
   ·injection hp with hp
    rw[hp]
    have h9:=ca (.cells #[] 62) (h5 j x hx)
    rw[adPg];exact h9
  have H3:=hid (show 0+n≤maxLen by unfold maxLen;omega)
  have H4:=hid (show(0+n)*8≤140737488355328 by omega)
  have HL:=hid (show(xs.map (Value.int .u64)).length=n*1 by rw[List.length_map,←hnn,Nat.mul_one])
  have HO:=hid (show ∀v∈xs.map (Value.int .u64),v.oneCell'=true by
   intro u hu
   obtain⟨y,_,rfl⟩:=List.mem_map.1 hu
   rfl)
  have HN:=hid hnews
  have HNN:=hid hnn
  have hempty:(w.alloc (.cells #[] 62)).ownsRow w.heap.size 62 1 (.slice (some ⟨w.heap.size,0,none⟩) 0 0) 0 []:=by
   have:=World.ownsRow_lit (base:=w.heap.size) (e:=62) (size:=1) w #[] 0 (Nat.le_refl _) (Nat.zero_le _) rfl
   simpa using this
  have HE:=hid hempty
  clear hempty hnews h2 hnn hn
  go_enter Tryz.func183,Tryz.ntmps183
  go_wp2_with (at_builtin;refine wpList_append_own_at _ rfl _ _ 34 rfl w.heap.size 62 i0 (.int .u64 0) 1 8 Tryz.underlying34 hi hz0 hz1 hz2 rfl (by decide) (.slice (some ⟨w.heap.size,0,none⟩) 0 0) 0 [] rfl HE.out p n cap _ rfl HL.out HN.out HO.out H3.out H4.out (by simp) ?_;intro v' w1 hown' hgrow _ hat)
  go_ret
  refine⟨_,rfl,by have h9:=hown';rw[Nat.zero_add,List.nil_append,HNN.out] at h9;rw[HNN.out] at*;exact h9,?_⟩
  exact((Below.refl _ w).alloc (Nat.le_refl _) _).grown hgrow (by simp) (fun k hk=>by
   have:w.heap.size=k:=by simpa[Value.ownBlock] using hk
   omega)
end Go.Proofs.YtjmaicckkkdjpaaGreat
/- Bytes of one's own: a word laid in them (the law's set); bytes copied. -/
namespace Go.Proofs.YtjmaicckkkdjpaaGreat
open Go.RowKit
def byC (bs:List Int):Array Value:=(bs.map (Value.int .u8)).toArray
theorem byC_set (bs:List Int) (i:Nat) (x:Int):(byC bs).setIfInBounds i (.int .u8 x)=byC (bs.set i x):=by
 unfold byC
 simp[List.map_set]
theorem byC_get {bs:List Int} {i:Nat} {x:Int} (h:bs[i]?=some x):(byC bs)[i]?=some (.int .u8 x):=by
 simp[byC,h]
def putW (bs:List Int) (a x:Nat):List Int:=bs.take a++(List.range 8).map (byteN x)++bs.drop (a+8)
def putTo (bs:List Int) (a x i:Nat):List Int:=bs.take a++(List.range i).map (byteN x)++bs.drop (a+i)
theorem putTo_zero (bs:List Int) (a x:Nat):putTo bs a x 0=bs:=by unfold putTo;simp
theorem putTo_8 (bs:List Int) (a x:Nat):putTo bs a x 8=putW bs a x:=rfl
theorem putTo_len {bs:List Int} {a:Nat} (x:Nat) {i:Nat} (h:a+i≤bs.length):(putTo bs a x i).length=bs.length:=by
 unfold putTo
 simp
 omega
theorem putW_len {bs:List Int} {a:Nat} (x:Nat) (h:a+8≤bs.length):(putW bs a x).length=bs.length:=putTo_len x h
theorem putTo_next {bs:List Int} {a x i:Nat} (h:a+i<bs.length):(putTo bs a x i).set (a+i) (byteN x i)=putTo bs a x (i+1):=by
 unfold putTo
 have h1:(bs.take a++(List.range i).map (byteN x)).length=a+i:=by simp;omega
 rw[List.set_append_right _ _ (by omega),h1,Nat.sub_self,List.drop_eq_getElem_cons h,List.set_cons_zero,List.range_succ,List.map_append,←List.append_assoc,List.append_assoc _ _ (List.drop _ _)]
 rfl
theorem putTo_at {bs:List Int} {a x i:Nat} (h:a+i<bs.length): ∃y,(putTo bs a x i)[a+i]?=some y:=⟨_,List.getElem?_eq_getElem (by rw[putTo_len x (by omega)];exact h)⟩
theorem putW_byte {bs:List Int} (h: ∀x∈bs,0≤x∧x<256) (a x:Nat): ∀y∈putW bs a x,0≤y∧y<256:=by
 intro y hy
 unfold putW at hy
 rw[List.mem_append,List.mem_append] at hy
 rcases hy with(hy | hy) | hy
 ·exact h y (List.mem_of_mem_take hy)
 ·obtain⟨j,_,rfl⟩:=List.mem_map.1 hy
  exact byteN_le x j
 ·exact h y (List.mem_of_mem_drop hy)
def wdN (bs:List Int) (a:Nat):Int:=leW ((bs.drop a).take 8)
theorem putW_get {bs:List Int} {a x i:Nat} (h:a+8≤bs.length):(putW bs a x)[i]?=if i<a then bs[i]? else if i<a+8 then some (byteN x (i-a)) else bs[i]?:=by
 unfold putW
 by_cases h1:i<a
 ·rw[if_pos h1,List.append_assoc,List.getElem?_append_left (by simp;omega),List.getElem?_take,if_pos h1]
 ·rw[if_neg h1]
  by_cases h2:i<a+8
  ·rw[if_pos h2,List.getElem?_append_left (by simp;omega),List.getElem?_append_right (by simp;omega)]
   have e:i- (bs.take a).length=i-a:=by simp;omega
   rw[e,List.getElem?_map,List.getElem?_range (by omega)];rfl
  ·rw[if_neg h2,List.getElem?_append_right (by simp;omega),List.getElem?_drop]
   congr 1
   simp;omega
theorem wdN_same {bs:List Int} {a x:Nat} (h:a+8≤bs.length) (hx:x<18446744073709551616):wdN (putW bs a x) a=x:=by
 unfold wdN
 have:((putW bs a x).drop a).take 8=(List.range 8).map (byteN x):=by
  apply List.ext_getElem?
  intro j
  rw[List.getElem?_take]
  by_cases hj:j<8
  ·rw[if_pos hj,List.getElem?_drop,putW_get h,if_neg (by omega),if_pos (by omega),List.getElem?_map,List.getElem?_range hj,Nat.add_sub_cancel_left];rfl
  ·rw[if_neg hj,List.getElem?_eq_none (by simp;omega)]
 rw[this,leW_word hx]
theorem wdN_other {bs:List Int} {a b x:Nat} (h:a+8≤bs.length) (hb:b+8≤a∨a+8≤b):wdN (putW bs a x) b=wdN bs b:=by
 unfold wdN
 congr 1
 apply List.ext_getElem?
 intro j
 rw[List.getElem?_take,List.getElem?_take]
 by_cases hj:j<8
 ·rw[if_pos hj,if_pos hj,List.getElem?_drop,List.getElem?_drop,putW_get h]
  rcases hb with hb | hb
  ·rw[if_pos (by omega)]
  ·rw[if_neg (by omega),if_neg (by omega)]
 ·rw[if_neg hj,if_neg hj]
theorem bytesIn_blk {w:World} {g n:Nat} {bs:List Int} (h:Blk w g 5 (byC bs)) (hb: ∀x∈bs,0≤x∧x<256) (hn:bs.length≤n):BytesIn w (some ⟨g,0,none⟩) n bs:=
 ⟨hn,hb,fun _=>⟨g,0,rfl,h.lt,fun i x hx=>by rw[h.cell,Nat.zero_add];exact byC_get hx⟩⟩
end Go.Proofs.YtjmaicckkkdjpaaGreat
