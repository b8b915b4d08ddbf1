/- Contracts of the references' words and bits: Take, Has, Put. -/
import Derived.Test.YtibiekfjbibpbaaGreatBitM
import Derived.Maps.AppendAt
import Derived.Deep.AppendLies
import Derived.Test.YtibiekfjbibpbaaGreatBaseC
set_option maxRecDepth 100000
set_option maxHeartbeats 2000000
set_option linter.unusedVariables false
set_option linter.unusedSimpArgs false
namespace Go.Proofs.YtibiekfjbibpbaaGreat
open Go.RowKit
theorem Take_r (p:Option Addr) (cap:Nat) (bs:List Int) (a:Nat) (ha:a+8≤bs.length) (hl:bs.length≤9223372036854775807) (w:World) (h:BytesIn w p cap bs):
  Calls Tryz.prog 126 #[.slice p bs.length cap,.int .i64 (a:Int)] w fun e w'=>e= .returned (.int .u64 (leW ((bs.drop a).take 8)))∧w=w':=by
 obtain⟨b,off,rfl,hbl,hbc⟩:=h.2.2 (by omega)
 obtain⟨N,hN⟩: ∃N,N=bs.length:=⟨_,rfl⟩
 rw[←hN] at ha hl ⊢
 obtain⟨cs,hcs⟩: ∃cs,cs=(bs.drop a).take 8:=⟨_,rfl⟩
 have hcl:cs.length=8:=by rw[hcs];simp;omega
 have hby: ∀j c,cs[j]?=some c→w.cell? ⟨b,off+(a+j),none⟩=some (.int .u8 c)∧0≤c∧c<256:=by
  intro j c hj
  have hj8:j<8:=by have:=(List.getElem?_eq_some_iff.1 hj).1;omega
  rw[hcs,List.getElem?_take,if_pos hj8,List.getElem?_drop] at hj
  exact⟨hbc _ _ hj,h.2.1 c (List.mem_of_getElem? hj)⟩
 rw[←hcs]
 have HBY:=hid hby
 have HCL:=hid hcl
 clear h hbc hby hcl hcs hN
 go_enter Tryz.func126,Tryz.ntmps126
 go_wp2
 go_loop [5,6] (fun v i=> ∃k:Nat,k≤8∧i= .int .i64 ((k:Int)-1)∧v= .int .u64 (leW (cs.drop k))) (fun _ i=>((intOf i)+1).toNat)
 case atStart=>
  refine⟨8,by omega,rfl,?_⟩
  rw[List.drop_of_length_le (by have:=HCL.out;omega)];rfl
 case round=>
  obtain⟨k,hk,rfl,rfl⟩:=hrel
  by_cases hlt:0<k
  ·obtain⟨j,rfl⟩: ∃j,k=j+1:=⟨k-1,by omega⟩
   have ej:(((j+1:Nat)):Int)-1=(j:Int):=by omega
   rw[ej]
   obtain⟨c,hc⟩: ∃c,cs[j]?=some c:=⟨_,List.getElem?_eq_getElem (by have:=HCL.out;omega)⟩
   obtain⟨y0,y1,y2⟩:=HBY.out j c hc
   have hw:Hid (leW (cs.drop j)=c+256*leW (cs.drop (j+1))):=by
    show _=_
    obtain⟨hjl,hcj⟩:=List.getElem?_eq_some_iff.1 hc
    rw[List.drop_eq_getElem_cons hjl,hcj];rfl
   have hb:=leW_bounds (bs:=cs.drop (j+1)) (fun z hz=>by
    obtain⟨m,hm⟩:=List.getElem?_of_mem (List.mem_of_mem_drop hz)
    exact(HBY.out m z hm).2)
   have hp:(2:Int)^ (8*(cs.drop (j+1)).length)≤2^56:=by
    have h4:=Nat.pow_le_pow_right (n:=2) (by omega) (show 8*(cs.drop (j+1)).length≤56 by simp;have:=HCL.out;omega)
    exact_mod_cast h4
   have h56:((2:Int)^56)=72057594037927936:=by decide
   obtain⟨V,hV⟩: ∃V,V=leW (cs.drop (j+1)):=⟨_,rfl⟩
   rw[←hV] at hw hb ⊢
   have v0:0≤V:=hb.1
   have v1:V*256+c<18446744073709551616:=by omega
   have v2:V*256<18446744073709551616:=by omega
   have i0:(0:Int)≤(j:Int):=by omega
   have i1:(0:Int)≤(a:Int)+(j:Int):=by omega
   have i2:(a:Int)+(j:Int)< (N:Int):=by omega
   have i3:((a:Int)+(j:Int)).toNat=a+j:=by omega
   have i4:IntKind.u64.wrap (V*256)=V*256:=IntWalk.u64_in _ (by omega)
   have i5:IntKind.u64.wrap (V*256+c)=V*256+c:=IntWalk.u64_in _ (by omega)
   have i6:IntKind.u64.wrap c=c:=IntWalk.u64_in _ (by omega)
   clear hc hb hp h56 hV
   go_wp2
   go_round
   case rel=>exact⟨j,by omega,by first | rfl | go_num,by rw[hw.out];try(congr 1;omega)⟩
   case measure=>simp[intOf]
  ·obtain rfl:k=0:=by omega
   have i1: ¬((((0:Nat)):Int)-1≥0):=by omega
   rw[List.drop_zero]
   go_wp2
   go_ret
   exact⟨rfl,rfl⟩
theorem RHas_r (b j:Nat) (hb:b<18446744073709551616) (hj:j<64) (w:World):
  Calls Tryz.prog 189 #[.int .u64 (b:Int),.int .i64 (j:Int)] w fun e w'=>e= .returned (.bool (hasB b j))∧w=w':=by
 have i1:(0:Int)≤(j:Int):=by omega
 have i2: ¬(j:Int)>63:=by omega
 go_enter Tryz.func189,Tryz.ntmps189
 go_wp2
 go_loop [0,5] (fun v i=> ∃k:Nat,k≤j∧i= .int .i64 k∧v= .int .u64 ((b/2^k:Nat):Int)) (fun _ i=>(j- (intOf i).toNat))
 case atStart=>exact⟨0,by omega,rfl,by simp⟩
 case round=>
  obtain⟨k,hk,rfl,rfl⟩:=hrel
  have hle:b/2^k≤b:=Nat.div_le_self _ _
  by_cases hlt:k<j
  ·have k1:(k:Int)< (j:Int):=by omega
   have e2:b/2^ (k+1)=b/2^k/2:=by rw[Nat.pow_succ,Nat.div_div_eq_div_mul]
   have HE:=hid e2
   obtain⟨V,hV⟩: ∃V,V=b/2^k:=⟨_,rfl⟩
   rw[←hV] at HE hle ⊢
   have v1:(V:Int)<18446744073709551616:=by omega
   have v0:(0:Int)≤(V:Int):=by omega
   clear e2 hV
   go_wp2
   go_round
   case rel=>exact⟨k+1,by omega,by go_num,by rw[HE.out];try(congr 1)⟩
   case measure=>simp[intOf];omega
  ·obtain rfl:k=j:=by omega
   have k1: ¬(k:Int)< (k:Int):=by omega
   have hT:Hid (hasB b k=decide (b/2^k % 2=1)):=Nat.testBit_eq_decide_div_mod_eq
   obtain⟨V,hV⟩: ∃V,V=b/2^k:=⟨_,rfl⟩
   rw[←hV] at hT hle ⊢
   have v1:(V:Int)<18446744073709551616:=by omega
   have v0:(0:Int)≤(V:Int):=by omega
   clear hV
   go_wp2
   go_ret
   refine⟨?_,rfl⟩
   have hB:((V:Int)% 2==1)=decide (V % 2=1):=by
    rw[Bool.eq_iff_iff];simp;omega
   rw[hT.out,←hB]
   rfl
theorem own_base {w:World} {base:Nat} {e:TypeId} {size n:Nat} {v:Value} {xs:List Value} (h:w.ownsRow base e size v n xs): ∀k,v.ownBlock=some k→base≤k:=by
 intro k hk
 rcases h.2 with⟨h1,_⟩ | ⟨g,cap,cur,h1,h2,_⟩
 ·rw[h1] at hk;cases hk
 ·rw[h1] at hk
  have:g=k:=by simpa[Value.ownBlock] using hk
  omega
theorem info_int:(Tryz.prog.info? 3).map (fun i=>(i.zero,i.size,i.bytes))=some (some (.int .i64 0),1,8):=by kernel_rfl
def bitV (j:Fin 64):Value:= .int .i64 (j.val:Int)
theorem RBits_r (b:Nat) (hb:b<18446744073709551616) (w:World):
  Calls Tryz.prog 129 #[.int .u64 (b:Int)] w fun e w'=> ∃v,e= .returned v∧w'.ownsRow w.heap.size 3 1 v (setBits b).length ((setBits b).map bitV)∧Below w.heap.size w w':=by
 obtain⟨i0,hi,hz0,hz1,hz2⟩:=info_parts info_int
 have HB:=hid hb
 clear hb
 go_enter Tryz.func129,Tryz.ntmps129
 go_wp2
 go_loopw [3,4] (fun v i wr=> ∃k:Nat,k≤64∧i= .int .i64 k∧Hid (wr.ownsRow w.heap.size 3 1 v (bitsTo b k).length ((bitsTo b k).map bitV)∧Below w.heap.size w wr)) (fun _ i _=>(64- (intOf i).toNat))
 case atStart=>exact⟨0,by omega,rfl,World.ownsRow_nil _ _ _ _,Below.refl _ _⟩
 case round=>
  obtain⟨k,hk,rfl,hI⟩:=hrel
  by_cases hlt:k<64
  ·have i2:(k:Int)<64:=by omega
   go_wp2_with fail
   refine(RHas_r b k HB.out hlt wr).mono ?_
   rintro e w1 ⟨rfl,rfl⟩
   cases hh:hasB b k
   ·have hT:=hid (show bitsTo b (k+1)=bitsTo b k by rw[bitsTo_succ hlt,hh];rfl)
    go_wp2
    go_roundw
    case rel=>exact⟨k+1,by omega,by go_num,by rw[hT.out];exact hI⟩
    case measure=>simp[intOf];omega
   ·have hT:=hid (show bitsTo b (k+1)=bitsTo b k++[⟨k,hlt⟩] by rw[bitsTo_succ hlt,hh];rfl)
    have hl:=bitsTo_length b k
    have h63:(bitsTo b k).length+1≤maxLen:=by unfold maxLen;omega
    have hby:((bitsTo b k).length+1)*8≤140737488355328:=by omega
    have HS:=hid hI.out.2.size
    have HO:=hid (hI.out.1.alloc (.cells #[.int .i64 (k:Int)] 3))
    go_wp2_with (at_builtin;go_must (refine wpList_append_own_at _ rfl _ _ 227 rfl w.heap.size 3 i0 (.int .i64 0) 1 8 Tryz.underlying227 hi hz0 hz1 hz2 rfl (by decide) _ _ _ rfl HO.out ⟨wr.heap.size,0,none⟩ 1 1 [.int .i64 (k:Int)] rfl rfl (World.news_of_block (Blk.new wr 3 #[.int .i64 (k:Int)])) (by simp[Value.oneCell']) h63 hby (by have:=HS.out;simp;omega) ?_);intro v' w1 hown' hgrow _ hat)
    go_roundw
    case rel=>
     refine⟨k+1,by omega,by go_num,?_⟩
     rw[hT.out]
     refine⟨by simpa[bitV] using hown',?_⟩
     exact belGrown (ba hI.out.2 _) hgrow (Nat.le_refl _) (fun r hr=>own_base hI.out.1 r hr)
    case measure=>simp[intOf];omega
  ·obtain rfl:k=64:=by omega
   have hS:bitsTo b 64=setBits b:=rfl
   rw[hS] at hI
   go_wp2
   go_ret
   exact⟨_,rfl,hI.out.1,hI.out.2⟩
theorem setBits_sorted (b:Nat):(setBits b).Pairwise fun x y=>x.val<y.val:=by
 unfold setBits
 refine List.Pairwise.filter _ ?_
 exact List.pairwise_lt_finRange 64
theorem mayBits_last {b:Nat} {n:Int} {xs:List (Fin 64)} {x:Fin 64} (h:setBits b=xs++[x]):mayBits b n=decide ((x.val:Int)<n):=by
 by_cases hx:(x.val:Int)<n
 ·rw[decide_eq_true hx]
  refine mayBits_true fun y hy=> ?_
  rw[h] at hy
  rcases List.mem_append.1 hy with hy | hy
  ·have hs:=setBits_sorted b
   rw[h] at hs
   have:=(List.pairwise_append.1 hs).2.2 y hy x (by simp)
   omega
  ·simp at hy;subst hy;exact hx
 ·rw[decide_eq_false hx]
  exact mayBits_false (pre:=setBits b) (List.prefix_refl _) ⟨x,by rw[h];simp,hx⟩
theorem RMay_r (b:Nat) (n:Int) (hb:b<18446744073709551616) (w:World):
  Calls Tryz.prog 127 #[.int .u64 (b:Int),.int .i64 n] w fun e w'=>e= .returned (.bool (mayBits b n))∧Below w.heap.size w w':=by
 have HR:=hid (RBits_r b hb w)
 clear hb
 go_enter Tryz.func127,Tryz.ntmps127
 go_wp2_with fail
 refine HR.out.mono ?_
 rintro e w2 ⟨v,rfl,hv,hbel⟩
 have HBEL:=hid hbel
 by_cases h0:setBits b=[]
 ·have hm:Hid (mayBits b n=true):=mayBits_true (by rw[h0];simp)
  rw[h0] at hv
  rcases hv.2 with⟨rfl,_⟩ | ⟨g,cap,cur,rfl,_⟩
  ·clear hv hbel h0
   go_wp2
   go_ret
   exact⟨by rw[hm.out];rfl,HBEL.out⟩
  ·clear hv hbel h0
   go_wp2
   go_ret
   exact⟨by rw[hm.out];rfl,HBEL.out⟩
 ·obtain⟨xs,x,hx⟩: ∃xs x,setBits b=xs++[x]:=⟨_,_,(List.dropLast_concat_getLast h0).symm⟩
  have hm:=hid (mayBits_last (n:=n) hx)
  obtain⟨L,hL⟩: ∃L,L=xs.length:=⟨_,rfl⟩
  have hlen:(setBits b).length=L+1:=by rw[hx,hL];simp
  rcases hv.2 with⟨_,hz⟩ | ⟨g,cap,cur,rfl,hg,hh,hc,hmx,hsz,htk⟩
  ·rw[hlen] at hz;omega
  ·rw[hlen] at hc ⊢
   rw[hlen,Nat.mul_one] at htk
   have hlt:=setBits_sorted b
   have y0:w2.cell? ⟨g,L,none⟩=some (.int .i64 (x.val:Int)):=by
    have h1:(cur.toList.take (L+1))[L]?=some (bitV x):=by rw[htk,hx];simp[hL]
    rw[List.getElem?_take,if_pos (by omega)] at h1
    rw[cell_of_row w2 g L cur _ _ hh]
    simpa[bitV] using h1
   have l64:(L:Int)<64:=by
    have h2:=bitsTo_length b 64
    have h3:bitsTo b 64=setBits b:=rfl
    rw[h3,hlen] at h2
    omega
   have l0:(0:Int)≤(L:Int):=by omega
   have e1:(((L+1:Nat)):Int)-1=(L:Int):=by omega
   have e2:(L:Int)+1-1=(L:Int):=by omega
   have t0:(((L:Int)+1)==0)=false:=by simp;omega
   have l1:(L:Int)< (L:Int)+1:=by omega
   clear hv hbel h0 hx hL hlen hg hh hmx hsz htk hlt
   go_wp2
   go_ret
   exact⟨by rw[hm.out];rfl,HBEL.out⟩
def byteN (n j:Nat):Int:=((n/256^j % 256:Nat):Int)
theorem byteN_le (n j:Nat):0≤byteN n j∧byteN n j<256:=by
 unfold byteN
 have:=Nat.mod_lt (n/256^j) (show 0<256 by omega)
 omega
theorem pow_256 (k:Nat):(2:Int)^ (8*k)=((256^k:Nat):Int):=by
 rw[Int.pow_mul,Int.natCast_pow]
 rfl
theorem leW_bytes (n:Nat): ∀k,leW ((List.range k).map (byteN n))=((n % 256^k:Nat):Int)
 | 0=>by
  show(0:Int)=((n % 256^0:Nat):Int)
  rw[Nat.pow_zero,Nat.mod_one];rfl
 | k+1=>by
  rw[List.range_succ,List.map_append,List.map_singleton,leW_snoc,leW_bytes n k,Nat.mod_pow_succ]
  rw[List.length_map,List.length_range,pow_256]
  unfold byteN
  rw[Int.natCast_add,Int.natCast_mul,Int.mul_comm]
theorem leW_word {n:Nat} (hn:n<18446744073709551616):leW ((List.range 8).map (byteN n))=(n:Int):=by
 rw[leW_bytes,Nat.mod_eq_of_lt (by exact hn)]
def putC (n i:Nat):Array Value:=((List.range 8).map fun j=>if j<i then Value.int .u8 (byteN n j) else .int .u8 0).toArray
theorem putC_succ (n i:Nat) (hi:i<8):(putC n i).setIfInBounds i (.int .u8 (byteN n i))=putC n (i+1):=by
 have:i=0∨i=1∨i=2∨i=3∨i=4∨i=5∨i=6∨i=7:=by omega
 rcases this with rfl | rfl | rfl | rfl | rfl | rfl | rfl | rfl<;>rfl
def putV (n:Nat):Value:= .agg #[.int .u8 (byteN n 0),.int .u8 (byteN n 1),.int .u8 (byteN n 2),.int .u8 (byteN n 3),.int .u8 (byteN n 4),.int .u8 (byteN n 5),.int .u8 (byteN n 6),.int .u8 (byteN n 7)]
theorem Put_r (n:Nat) (hn:n<18446744073709551616) (w:World):
  Calls Tryz.prog 80 #[.int .u64 (n:Int)] w fun e w'=>e= .returned (putV n)∧Below w.heap.size w w':=by
 have HN:=hid hn
 clear hn
 go_enter Tryz.func80,Tryz.ntmps80
 go_wp2_with fail
 generalize hW:World.alloc (World.alloc w _) _=W0
 have hsz:W0.heap.size=w.heap.size+2:=by rw[←hW];simp
 have hb0:Below w.heap.size w W0:=by rw[←hW];exact ba (ba (Below.refl _ _) _) _
 have h1:Blk W0 (w.heap.size+1) 170 (putC n 0):=by
  rw[←hW]
  have:=Blk.new (w.alloc (.cells (putC n 0) 170)) 170 (putC n 0)
  simp only[World.size_alloc] at this
  exact this
 have h2:Blk W0 w.heap.size 170 (putC n 0):=by
  rw[←hW];exact(Blk.new w 170 (putC n 0)).alloc _
 have H0:Hid (Blk W0 (w.heap.size+1) 170 (putC n 0)∧Blk W0 w.heap.size 170 (putC n 0)∧Below w.heap.size w W0):=⟨h1,h2,hb0⟩
 clear hW hsz hb0 h1 h2
 go_loopw [0,4] (fun v i wr=> ∃k:Nat,k≤8∧i= .int .i64 k∧v= .int .u64 ((n/256^k:Nat):Int)∧Hid (Blk wr (w.heap.size+1) 170 (putC n k)∧Blk wr w.heap.size 170 (putC n 0)∧Below w.heap.size w wr)) (fun _ i _=>(8- (intOf i).toNat))
 case atStart=>exact⟨0,by omega,rfl,by simp,H0⟩
 case round=>
  obtain⟨k,hk,rfl,rfl,hI⟩:=hrel
  by_cases hlt:k<8
  ·have i1:(0:Int)≤(k:Int):=by omega
   have i2:(k:Int)<8:=by omega
   have hle:n/256^k≤n:=Nat.div_le_self _ _
   have e2:Hid (n/256^ (k+1)=n/256^k/256):=by show _=_;rw[Nat.pow_succ,Nat.div_div_eq_div_mul]
   have eb:Hid (byteN n k=((n/256^k:Nat):Int)% 256):=by show _=_;unfold byteN;omega
   obtain⟨V,hV⟩: ∃V,V=n/256^k:=⟨_,rfl⟩
   rw[←hV] at e2 eb hle ⊢
   have v0:(0:Int)≤(V:Int):=by omega
   have v1:(V:Int)<18446744073709551616:=by have:=HN.out;omega
   obtain⟨oc,yo⟩: ∃oc,wr.cell? ⟨w.heap.size+1,k,none⟩=some oc:=by
    rw[hI.out.1.cell]
    exact⟨_,Array.getElem?_eq_getElem (by simp[putC];omega)⟩
   have yf:=hI.out.1.frozen k
   have u8:IntKind.u8.wrap ((V:Int)% 256)=(V:Int)% 256:=by rw[IntKind.wrap_u8];omega
   have hnx:Hid (Blk (wr.setCell ⟨w.heap.size+1,k,none⟩ (.int .u8 ((V:Int)% 256))) (w.heap.size+1) 170 (putC n (k+1))∧Blk (wr.setCell ⟨w.heap.size+1,k,none⟩ (.int .u8 ((V:Int)% 256))) w.heap.size 170 (putC n 0)∧Below w.heap.size w (wr.setCell ⟨w.heap.size+1,k,none⟩ (.int .u8 ((V:Int)% 256)))):=by
    refine⟨?_,hI.out.2.1.far (by show w.heap.size≠w.heap.size+1;omega) _,hI.out.2.2.setCell (by show w.heap.size≤w.heap.size+1;omega) _⟩
    rw[←putC_succ n k hlt,eb.out]
    exact hI.out.1.set_ k _
   clear hV hI
   go_wp2
   go_roundw
   case rel=>exact⟨k+1,by omega,by go_num,by rw[e2.out];try(congr 1),hnx⟩
   case measure=>simp[intOf];omega
  ·obtain rfl:k=8:=by omega
   have c0:wr.cell? ⟨w.heap.size+1,0,none⟩=some (.int .u8 (byteN n 0)):=hI.out.1.cell 0
   have c1:wr.cell? ⟨w.heap.size+1,1,none⟩=some (.int .u8 (byteN n 1)):=hI.out.1.cell 1
   have c2:wr.cell? ⟨w.heap.size+1,2,none⟩=some (.int .u8 (byteN n 2)):=hI.out.1.cell 2
   have c3:wr.cell? ⟨w.heap.size+1,3,none⟩=some (.int .u8 (byteN n 3)):=hI.out.1.cell 3
   have c4:wr.cell? ⟨w.heap.size+1,4,none⟩=some (.int .u8 (byteN n 4)):=hI.out.1.cell 4
   have c5:wr.cell? ⟨w.heap.size+1,5,none⟩=some (.int .u8 (byteN n 5)):=hI.out.1.cell 5
   have c6:wr.cell? ⟨w.heap.size+1,6,none⟩=some (.int .u8 (byteN n 6)):=hI.out.1.cell 6
   have c7:wr.cell? ⟨w.heap.size+1,7,none⟩=some (.int .u8 (byteN n 7)):=hI.out.1.cell 7
   have d0:wr.cell? ⟨w.heap.size,0,none⟩=some (.int .u8 0):=hI.out.2.1.cell 0
   have d1:wr.cell? ⟨w.heap.size,1,none⟩=some (.int .u8 0):=hI.out.2.1.cell 1
   have d2:wr.cell? ⟨w.heap.size,2,none⟩=some (.int .u8 0):=hI.out.2.1.cell 2
   have d3:wr.cell? ⟨w.heap.size,3,none⟩=some (.int .u8 0):=hI.out.2.1.cell 3
   have d4:wr.cell? ⟨w.heap.size,4,none⟩=some (.int .u8 0):=hI.out.2.1.cell 4
   have d5:wr.cell? ⟨w.heap.size,5,none⟩=some (.int .u8 0):=hI.out.2.1.cell 5
   have d6:wr.cell? ⟨w.heap.size,6,none⟩=some (.int .u8 0):=hI.out.2.1.cell 6
   have d7:wr.cell? ⟨w.heap.size,7,none⟩=some (.int .u8 0):=hI.out.2.1.cell 7
   have f0:=hI.out.2.1.frozen 0
   have f1:=hI.out.2.1.frozen 1
   have f2:=hI.out.2.1.frozen 2
   have f3:=hI.out.2.1.frozen 3
   have f4:=hI.out.2.1.frozen 4
   have f5:=hI.out.2.1.frozen 5
   have f6:=hI.out.2.1.frozen 6
   have f7:=hI.out.2.1.frozen 7
   go_wp2
   refine bodyPost_ret (v:=putV n) (by simp[results,Tryz.results80,go_sem,putV, *]) rfl ?_
   refine⟨rfl,?_⟩
   iterate 8 refine Below.setCell ?_ (by exact Nat.le_refl w.heap.size) _
   exact hI.out.2.2
end Go.Proofs.YtibiekfjbibpbaaGreat
