import Derived.Test.YtjmaicckkkdjpaaGreatF24
/- How many words a value has: the code's, the document's. -/
set_option maxRecDepth 100000
set_option maxHeartbeats 2000000
set_option linter.unusedVariables false
set_option linter.unusedSimpArgs false
namespace Go.Proofs.YtjmaicckkkdjpaaGreat
open Go.RowKit
def wordsV (n:Nat):Nat:=1+(n+7)/8
theorem VWords_z (n:Nat) (hn:n≤120) (w:World):Calls Tryz.prog 184 #[.int .i64 n] w fun e w'=>e= .returned (.int .i64 (wordsV n:Nat))∧w=w':=by
 have h0: ¬(n:Int)<0:=by omega
 have h1: ¬(120:Int)< (n:Int):=by omega
 have h2:(0:Int)≤(n:Int):=by omega
 have hq:IntKind.i64.wrap (((n:Int)+8-1).tdiv 8)=(((n+7)/8:Nat):Int):=by
  rw[IntWalk.i64_quo _ _ ⟨by omega,by omega,by omega⟩];omega
 have hq7:IntKind.i64.wrap (((n:Int)+7).tdiv 8)=(((n+7)/8:Nat):Int):=by
  rw[IntWalk.i64_quo _ _ ⟨by omega,by omega,by omega⟩];omega
 go_enter Tryz.func184,Tryz.ntmps184
 go_wp2
 go_ret
 refine⟨?_,rfl⟩
 unfold wordsV
 simp
theorem WPut_z (n:Nat) (hn:n<18446744073709551616) (w:World):
  Calls Tryz.prog 201 #[.int .u64 (n:Int)] w fun e w'=>e= .returned (putV n)∧Below w.heap.size w w':=by
 have HN:=hid hn
 clear hn
 go_enter Tryz.func201,Tryz.ntmps201
 go_wp2_with fail
 generalize hW:World.alloc w _=W0
 have hsz:W0.heap.size=w.heap.size+1:=by rw[←hW];simp
 have hb0:Below w.heap.size w W0:=by rw[←hW];exact(ba (Below.refl _ _) _)
 have h2:Blk W0 w.heap.size 294 (putC n 0):=by
  rw[←hW];exact(Blk.new w 294 (putC n 0))
 have H0:Hid (Blk W0 w.heap.size 294 (putC n 0)∧Below w.heap.size w W0):=⟨h2,hb0⟩
 clear hW hsz hb0 h2
 go_loopw [0,3,4] (fun v s3 i wr=> ∃k:Nat,k≤8∧i= .int .i64 k∧v= .int .u64 ((n/256^k:Nat):Int)∧Hid (Blk wr w.heap.size 294 (putC n k)∧Below w.heap.size w wr)) (fun _ _ i _=>(8- (intOf i).toNat))
 case atStart=>exact⟨0,by omega,rfl,by simp,H0⟩
 case round=>
  obtain⟨k,hk,rfl,rfl,hI⟩:=hrel
  by_cases hlt:k<8
  ·have i1:(0:Int)≤(k:Int):=by omega
   have i2:(k:Int)<8:=by omega
   have hle:n/256^k≤n:=Nat.div_le_self _ _
   have e2:Hid (n/256^ (k+1)=n/256^k/256):=by show _=_;rw[Nat.pow_succ,Nat.div_div_eq_div_mul]
   have eb:Hid (byteN n k=((n/256^k:Nat):Int)% 256):=by show _=_;unfold byteN;omega
   obtain⟨V,hV⟩: ∃V,V=n/256^k:=⟨_,rfl⟩
   rw[←hV] at e2 eb hle ⊢
   have v0:(0:Int)≤(V:Int):=by omega
   have v1:(V:Int)<18446744073709551616:=by have:=HN.out;omega
   obtain⟨oc,yo⟩: ∃oc,wr.cell? ⟨w.heap.size,k,none⟩=some oc:=by
    rw[hI.out.1.cell,putC]
    exact⟨_,by rw[List.getElem?_toArray,List.getElem?_map,List.getElem?_range hlt];rfl⟩
   have yf:=hI.out.1.frozen k
   have u8:IntKind.u8.wrap (V:Int)=(V:Int)% 256:=by rw[IntKind.wrap_u8]
   have us:IntKind.u64.wrap ((V:Int)/256)=(V:Int)/256:=by rw[IntKind.wrap_u64];omega
   have hnx:Hid (Blk (wr.setCell ⟨w.heap.size,k,none⟩ (.int .u8 ((V:Int)% 256))) w.heap.size 294 (putC n (k+1))∧Below w.heap.size w (wr.setCell ⟨w.heap.size,k,none⟩ (.int .u8 ((V:Int)% 256)))):=by
    refine⟨?_,hI.out.2.setCell (by show w.heap.size≤w.heap.size;omega) _⟩
    rw[←putC_succ n k hlt,eb.out]
    exact hI.out.1.set_ k _
   clear hV hI
   go_wp2
   go_roundw
   case rel=>exact⟨k+1,by omega,by go_num,by rw[e2.out];try(congr 1),hnx⟩
   case measure=>simp[intOf];omega
  ·obtain rfl:k=8:=by omega
   have c0:wr.cell? ⟨w.heap.size,0,none⟩=some (.int .u8 (byteN n 0)):=hI.out.1.cell 0
   have c1:wr.cell? ⟨w.heap.size,1,none⟩=some (.int .u8 (byteN n 1)):=hI.out.1.cell 1
   have c2:wr.cell? ⟨w.heap.size,2,none⟩=some (.int .u8 (byteN n 2)):=hI.out.1.cell 2
   have c3:wr.cell? ⟨w.heap.size,3,none⟩=some (.int .u8 (byteN n 3)):=hI.out.1.cell 3
   have c4:wr.cell? ⟨w.heap.size,4,none⟩=some (.int .u8 (byteN n 4)):=hI.out.1.cell 4
   have c5:wr.cell? ⟨w.heap.size,5,none⟩=some (.int .u8 (byteN n 5)):=hI.out.1.cell 5
   have c6:wr.cell? ⟨w.heap.size,6,none⟩=some (.int .u8 (byteN n 6)):=hI.out.1.cell 6
   have c7:wr.cell? ⟨w.heap.size,7,none⟩=some (.int .u8 (byteN n 7)):=hI.out.1.cell 7
   have f0:=hI.out.1.frozen 0
   have f1:=hI.out.1.frozen 1
   have f2:=hI.out.1.frozen 2
   have f3:=hI.out.1.frozen 3
   have f4:=hI.out.1.frozen 4
   have f5:=hI.out.1.frozen 5
   have f6:=hI.out.1.frozen 6
   have f7:=hI.out.1.frozen 7
   go_wp2
   refine bodyPost_ret (v:=putV n) (by simp[results,Tryz.results201,go_sem,putV, *]) rfl ?_
   refine⟨rfl,?_⟩
   iterate 8 refine Below.setCell ?_ (by exact Nat.le_refl w.heap.size) _
   exact hI.out.2
section
attribute [local go_sem ↓ high] append_shut2
attribute [local go_sem] Oper.semAt_some appM2_run
def bytesN (ns:List Nat):List Int:=ns.flatMap fun n=>(List.range 8).map (byteN n)
theorem bytesN_len (ns:List Nat):(bytesN ns).length=8*ns.length:=by
 induction ns with
 | nil=>rfl
 | cons n ns ih=>unfold bytesN at ih ⊢;rw[List.flatMap_cons,List.length_append,ih];simp;omega
theorem bytesN_snoc (ns:List Nat) (n:Nat):bytesN (ns++[n])=bytesN ns++(List.range 8).map (byteN n):=by
 unfold bytesN;rw[List.flatMap_append];simp
theorem infoByte:(Tryz.prog.info? 5).map (fun i=>(i.zero,i.size,i.bytes))=some (some (.int .u8 0),1,1):=by kernel_rfl
def byteVs (xs:List Int):List Value:=xs.map (Value.int .u8)
theorem app_bytes (N:Nat) (W:World) (x:Value) (m:Nat) (l:List Int) (n:Nat) (hn:l.length=n) (news:List Int) (v:Value) (hx:NewsAt W x m (byteVs news)) (hl:news.length=m) (hm:n+m≤2000000) (hN:N≤W.heap.size) (hr:W.ownsRow N 5 1 v n (byteVs l)):
  ∃v' w',appRun2 Tryz.prog #[47,47] 47 #[v,x] W= .ok v' w'∧w'.ownsRow N 5 1 v' (n+m) (byteVs (l++news))∧W.grownBy w' v.ownBlock∧(v'.ownBlock=v.ownBlock∨v'.ownBlock=some W.heap.size):=by
 obtain⟨i0,hi0,hz0,hz1,hz2⟩:=info_parts infoByte
 obtain⟨v',w',h⟩:=run_app (P:=Tryz.prog) W N 47 47 5 i0 (.int .u8 0) 1 1 Tryz.underlying47 hi0 hz0 hz1 hz2 rfl (by decide) v n _ hr x m _ hx (by simp[byteVs,hl]) (fun u hu=>by
  unfold byteVs at hu
  obtain⟨y,_,rfl⟩:=List.mem_map.1 hu
  rfl) (by unfold maxLen;omega) (by omega) hN
 exact⟨v',w',h.run,by have:=h.own;rwa[byteVs,byteVs,←List.map_append] at this,h.grown,h.ob⟩
structure BytI (ns:List Nat) (w:World) (k:Nat) (v:Value) (W:World):Prop where
 row:W.ownsRow w.heap.size 5 1 v (8*k) (byteVs (bytesN (ns.take k)))
 new: ∀b,v.ownBlock=some b→w.heap.size≤b
 bel:Below w.heap.size w W
 zero:k=0→v= .slice none 0 0
theorem WBytes_z (ns:List Nat) (h64: ∀x∈ns,x<18446744073709551616) (hlen:ns.length≤1000) (v:Value) (w:World) (h:NumsAt .u64 w v (ns.map fun x:Nat=>(x:Int))):
  Calls Tryz.prog 196 #[v] w fun e W'=> ∃u,e= .returned u∧W'.ownsRow w.heap.size 5 1 u (8*ns.length) (byteVs (bytesN ns))∧Below w.heap.size w W'∧(ns.length=0→u= .slice none 0 0):=by
 obtain⟨ao,cap,rfl,hcl⟩:=h
 rw[List.length_map]
 obtain⟨q,hq⟩: ∃q,q=ns.length:=⟨_,rfl⟩
 rw[←hq] at hlen ⊢
 have HQ:=hid hq
 have HC:=hid hcl
 have H64:=hid h64
 have HI0:Hid (BytI ns w 0 (.slice none 0 0) w):=⟨World.ownsRow_nil _ _ _ _,fun b hb=>by simp[Value.ownBlock] at hb,Below.refl _ _,fun _=>rfl⟩
 clear hq hcl h64
 go_enter Tryz.func196,Tryz.ntmps196
 go_wp2
 go_loopw [3,5,6,9] (fun rv s5 s6 iv wr=> ∃k:Nat,k≤q∧iv= .int .i64 k∧(∃m ra rc,rv= .slice ra m rc∧m=8*k)∧Hid (BytI ns w k rv wr)) (fun _ _ _ iv _=>(q- (intOf iv).toNat))
 case atStart=>exact⟨0,by omega,rfl,⟨0,none,0,rfl,rfl⟩,HI0⟩
 case round=>
  obtain⟨k,hk,rfl,⟨m,ra,rc,rfl,hm⟩,hI⟩:=hrel
  by_cases hlt:k<q
  ·have i1:(k:Int)< (q:Int):=by omega
   have i0:(0:Int)≤(k:Int):=by omega
   obtain⟨x,hx⟩: ∃x,ns[k]?=some x:=⟨_,List.getElem?_eq_getElem (by rw[←HQ.out];exact hlt)⟩
   obtain⟨g,off,hva,hgl,hcl⟩:=HC.out.resolve_left (fun e=>by have h:=congrArg List.length e;simp at h;rw[h] at hx;simp at hx)
   subst hva
   have c1:wr.cell? ⟨g,off+k,none⟩=some (.int .u64 (x:Int)):=(hI.out.bel.cell (p:=⟨g,off+k,none⟩) hgl).trans (hcl k _ (by rw[List.getElem?_map,hx];rfl))
   have WP:=hid (WPut_z x (H64.out x (List.mem_of_getElem? hx)) wr)
   have HX:=hid hx
   have HLT:=hid hlt
   clear hx hcl hlt hk hgl
   go_wp2_with fail
   refine WP.out.mono ?_
   rintro e w3 ⟨rfl,hb3⟩
   obtain⟨W5,hW5⟩: ∃W5,W5=w3.alloc (.cells #[.int .u8 (byteN x 0),.int .u8 (byteN x 1),.int .u8 (byteN x 2),.int .u8 (byteN x 3),.int .u8 (byteN x 4),.int .u8 (byteN x 5),.int .u8 (byteN x 6),.int .u8 (byteN x 7)] 294):=⟨_,rfl⟩
   have o5:Only [] wr W5:=by rw[hW5];exact(Only.of_below hb3 []).alloc _
   have z5:w.heap.size≤W5.heap.size:=by have:=o5.size;have:=hI.out.bel.size;omega
   obtain⟨v',w9,hrun,hown,hgr,hob⟩:=app_bytes w.heap.size W5 (.slice (some ⟨w3.heap.size,0,none⟩) 8 8) 8 (bytesN (ns.take k)) m (by rw[bytesN_len,List.length_take,hm,←HQ.out];have:=HLT.out;omega) ((List.range 8).map (byteN x)) (.slice ra m rc) (Or.inr ⟨w3.heap.size,0,8,rfl,fun j u hj=>by
    rw[hW5,((Blk.new w3 294 #[.int .u8 (byteN x 0),.int .u8 (byteN x 1),.int .u8 (byteN x 2),.int .u8 (byteN x 3),.int .u8 (byteN x 4),.int .u8 (byteN x 5),.int .u8 (byteN x 6),.int .u8 (byteN x 7)])).cell (0+j),Nat.zero_add]
    simpa[byteVs,List.range_succ] using hj⟩) (by simp) (by have:=HLT.out;omega) z5 (o5.own (by have:=hI.out.row;rw[←hm] at this;exact this) (by simp))
   obtain⟨a9,d9,rfl⟩:=row_form1 hown
   have oW:Only ((Value.slice ra m rc).ownBlock.toList) wr w9:=(o5.mono (fun _ h=>by cases h)).trans (Only.of_grown hgr (fun k hk=>by simp[hk])) (fun k hk=>Or.inl hk)
   have hI1:Hid (BytI ns w (k+1) (.slice a9 (m+8) d9) w9):=by
    refine⟨?_,fun b hb=> ?_,hI.out.bel.trans (oW.below (fun y hy=>hI.out.new y (by simpa using hy)) hI.out.bel.size),fun h0=>by omega⟩
    ·have e:ns.take (k+1)=ns.take k++[x]:=by rw[List.take_add_one,HX.out];rfl
     rw[e,bytesN_snoc,show 8*(k+1)=m+8 by omega]
     exact hown
    ·rcases hob with h | h
     ·exact hI.out.new b (h▸hb)
     ·rw[h] at hb
      injection hb with hb
      omega
   have hm1:m+8=8*(k+1):=by omega
   have HM1:=hid hm1
   rw[hW5] at hrun
   clear oW hown hgr hob o5 z5 hb3 hm1 c1 WP hW5 hm
   unfold putV
   go_wp2
   go_roundw
   case rel=>exact⟨k+1,HLT.out,by go_num,⟨m+8,a9,d9,rfl,HM1.out⟩,hI1⟩
   case measure=>simp[intOf];have:=HLT.out;omega
  ·obtain rfl:k=q:=by omega
   have i1: ¬(k:Int)< (k:Int):=by omega
   have HM:=hid hm
   clear hlt hk hm
   go_wp2
   go_ret
   have hr:=hI.out.row
   rw[List.take_of_length_le (by have:=HQ.out;omega)] at hr
   exact⟨_,rfl,hr,hI.out.bel,hI.out.zero⟩
end
section
attribute [local go_sem ↓ high] append_shut2
attribute [local go_sem] Oper.semAt_some appM2_run
end
theorem shl_or {N c:Int} (hN:0≤N) (hN2:N<72057594037927936) (hc:0≤c) (hc2:c<256):bits BinOp.or IntKind.u64 (N*256) c=c+256*N:=by
 obtain⟨a,rfl⟩:=Int.eq_ofNat_of_zero_le hN
 obtain⟨c,rfl⟩:=Int.eq_ofNat_of_zero_le hc
 have hp:((a:Int)*256)=((a*2^8:Nat):Int):=by simp
 have hc3:c<2^8:=by omega
 rw[hp,bits_or_u64_nat _ c (by omega) (by omega)]
 rw[←Nat.shiftLeft_eq,←Nat.shiftLeft_add_eq_or_of_lt hc3,Nat.shiftLeft_eq]
 rw[Nat.mul_comm a]
 omega
theorem leW_drop {bs:List Int} {k:Nat} {c:Int} (h:bs[k]?=some c):leW (bs.drop k)=c+256*leW (bs.drop (k+1)):=by
 obtain⟨hl,rfl⟩:=List.getElem?_eq_some_iff.1 h
 rw[List.drop_eq_getElem_cons hl,leW]
theorem leW_small {bs:List Int} (h: ∀x∈bs,0≤x∧x<256) (h7:bs.length≤7):0≤leW bs∧leW bs<72057594037927936:=by
 have h1:=leW_bounds h
 have h2:(2:Int)^ (8*bs.length)≤72057594037927936:=by
  have:(2:Nat)^ (8*bs.length)≤2^56:=Nat.pow_le_pow_right (by omega) (by omega)
  have e:((2^ (8*bs.length):Nat):Int)=(2:Int)^ (8*bs.length):=Int.natCast_pow 2 _
  rw[←e]
  omega
 omega
def strB (s:ByteArray):List Int:=s.data.toList.map fun b=>(b.toNat:Int)
theorem strB_len (s:ByteArray):(strB s).length=s.size:=by unfold strB;rw[List.length_map,Array.length_toList];rfl
theorem strB_in (s:ByteArray): ∀x∈strB s,0≤x∧x<256:=by
 intro x hx
 obtain⟨b,_,rfl⟩:=List.mem_map.1 hx
 have:=b.toNat_lt
 omega
theorem WTakeS_z (s:ByteArray) (h8:s.size≤8) (w:World):
  Calls Tryz.prog 202 #[.string s] w fun e w'=>e= .returned (.int .u64 (leW (strB s)))∧w=w':=by
 have hql:=strB_len s
 have HQ:=hid hql
 have iq:IntKind.i64.wrap ((s.size:Int)-1)=(s.size:Int)-1:=IntWalk.i64_in _ (by omega)
 clear hql
 go_enter Tryz.func202,Tryz.ntmps202
 go_wp2
 go_loopw [2,3] (fun nv iv wr=> ∃k:Nat,k≤s.size∧nv= .int .u64 (leW ((strB s).drop k))∧iv= .int .i64 ((k:Int)-1)∧Hid (wr=w)) (fun _ iv _=>(intOf iv+1).toNat)
 case atStart=>exact⟨s.size,by omega,by rw[List.drop_of_length_le (by rw[HQ.out];exact Nat.le_refl _)];rfl,(by first | rfl | go_num),rfl⟩
 case round=>
  obtain⟨k,hk,rfl,rfl,hwr⟩:=hrel
  obtain rfl:=hwr.out
  by_cases hk0:0<k
  ·obtain⟨j,rfl⟩: ∃j,k=j+1:=⟨k-1,by omega⟩
   have hjq:j<s.size:=by omega
   have i0:(0:Int)≤(j:Int):=by omega
   have i1:(j:Int)< (s.size:Int):=by omega
   obtain⟨c,hc⟩: ∃c,(strB s)[j]?=some c:=⟨_,List.getElem?_eq_getElem (by rw[HQ.out];exact hjq)⟩
   have hcs:((s[j]'hjq).toNat:Int)=c:=by
    unfold strB at hc
    rw[List.getElem?_map,Array.getElem?_toList] at hc
    have hjd:j<s.data.size:=hjq
    rw[Array.getElem?_eq_getElem hjd] at hc
    exact Option.some.inj hc
   have hc2:=strB_in s c (List.mem_of_getElem? hc)
   have hN:=leW_small (bs:=(strB s).drop (j+1)) (fun x hx=>strB_in s x (List.mem_of_mem_drop hx)) (by rw[List.length_drop,HQ.out];omega)
   have HL:=hid (leW_drop hc)
   obtain⟨N,hNe⟩: ∃N,N=leW ((strB s).drop (j+1)):=⟨_,rfl⟩
   rw[←hNe] at hN HL ⊢
   have ho:=shl_or hN.1 hN.2 hc2.1 hc2.2
   have uc:IntKind.u64.wrap c=c:=IntWalk.u64_in _ (by omega)
   have ij:IntKind.i64.wrap ((j:Int)-1)=(j:Int)-1:=IntWalk.i64_in _ (by omega)
   have HJ:=hid hjq
   clear hc hNe hk hk0
   go_wp2
   go_roundw
   case rel=>exact⟨j,by have:=HJ.out;omega,by rw[HL.out],by first | rfl | go_num,(by first | exact hid rfl | exact hid trivial)⟩
   case measure=>(simp[intOf];try omega)
  ·obtain rfl:k=0:=by omega
   clear hk0 hk
   go_wp2
   go_ret
   exact⟨rfl,rfl⟩
section
attribute [local go_sem ↓ high] append_shut2
attribute [local go_sem] Oper.semAt_some appM2_run
theorem strB_extract (s:ByteArray) (a b:Nat):strB (s.extract a b)=((strB s).drop a).take (b-a):=by
 unfold strB
 rw[ByteArray.data_extract,Array.toList_extract,List.extract_eq_take_drop,List.map_take,List.map_drop]
def packC (bs:List Int) (k:Nat):List Int:=(bs.length:Int)::(List.range k).map fun i=>leW ((bs.drop (8*i)).take 8)
def packV (bs:List Int) (k:Nat):List Value:=(packC bs k).map (Value.int .u64)
theorem packV_snoc (bs:List Int) (k:Nat):packV bs (k+1)=packV bs k++[.int .u64 (leW ((bs.drop (8*k)).take 8))]:=by
 unfold packV packC
 rw[List.range_succ,List.map_append,←List.cons_append,List.map_append];rfl
theorem packV_len (bs:List Int) (k:Nat):(packV bs k).length=k+1:=by unfold packV packC;simp
theorem infoW64:(Tryz.prog.info? 25).map (fun i=>(i.zero,i.size,i.bytes))=some (some (.int .u64 0),1,8):=by kernel_rfl
structure PckI (bs:List Int) (w:World) (k:Nat) (v:Value) (W:World):Prop where
 row:W.ownsRow w.heap.size 25 1 v (k+1) (packV bs k)
 new: ∀b,v.ownBlock=some b→w.heap.size≤b
 bel:Below w.heap.size w W
theorem WPack_z (s:ByteArray) (h8:s.size≤120) (w:World):
  Calls Tryz.prog 198 #[.string s] w fun e w'=> ∃v,e= .returned v∧w'.ownsRow w.heap.size 25 1 v ((s.size+7)/8+1) (packV (strB s) ((s.size+7)/8))∧Below w.heap.size w w':=by
 have iq:IntKind.u64.wrap (s.size:Int)=(s.size:Int):=IntWalk.u64_in _ (by omega)
 have HI0:Hid (PckI (strB s) w 0 (.slice (some ⟨w.heap.size,0,none⟩) 1 1) (w.alloc (.cells #[.int .u64 (s.size:Int)] 25))):=by
  refine⟨⟨by rw[packV_len],Or.inr ⟨w.heap.size,1,#[.int .u64 (s.size:Int)],rfl,Nat.le_refl _,Blk.new w _ _,by omega,by unfold maxLen;omega,rfl,?_⟩⟩,fun b hb=> ?_,ba (Below.refl _ _) _⟩
  ·unfold packV packC;rw[strB_len];rfl
  ·injection hb with hb;exact Nat.le_of_eq hb
 go_enter Tryz.func198,Tryz.ntmps198
 go_upto_region 2 with fail
 go_loopw [0,3,4] (fun sv rv s4 wr=> ∃k u,sv= .string u∧Hid (strB u=(strB s).drop (8*k)∧k≤(s.size+7)/8)∧(∃m ra rc,rv= .slice ra m rc∧Hid (m=k+1))∧Hid (PckI (strB s) w k rv wr)) (fun sv _ _ _=>match sv with | .string u=>u.size | _=>0)
 case atStart=>exact⟨0,s,rfl,⟨rfl,Nat.zero_le _⟩,⟨1,_,1,rfl,rfl⟩,HI0⟩
 case round=>
  obtain⟨k,u,rfl,hu,⟨m,ra,rc,rfl,hm⟩,hI⟩:=hrel
  have hus:u.size=s.size-8*k:=by rw[←strB_len,hu.out.1,List.length_drop,strB_len]
  by_cases h0:0<u.size
  ·have i0:(0:Int)< (u.size:Int):=by omega
   obtain⟨c,hc⟩: ∃c,c=(min (u.size:Int) 8).toNat:=⟨_,rfl⟩
   have hcm:c=min u.size 8:=by omega
   have e1:strB (u.extract 0 c)=((strB s).drop (8*k)).take 8:=by
    rw[strB_extract,List.drop_zero,Nat.sub_zero,hcm,←hu.out.1]
    rcases Nat.le_total u.size 8 with h | h
    ·rw[Nat.min_eq_left h,List.take_of_length_le (by rw[strB_len];exact Nat.le_refl _),List.take_of_length_le (by rw[strB_len];exact h)]
    ·rw[Nat.min_eq_right h]
   have hsz:(u.extract 0 c).size≤8:=by rw[←strB_len,e1,List.length_take];omega
   have TA:=hid (WTakeS_z (u.extract 0 c) hsz wr)
   rw[e1] at TA
   have e2:strB (u.extract c u.size)=(strB s).drop (8*(k+1)):=by
    rw[strB_extract,List.take_of_length_le (by rw[List.length_drop,strB_len];omega),hu.out.1,List.drop_drop,hcm]
    rcases Nat.le_total u.size 8 with h | h
    ·rw[Nat.min_eq_left h,List.drop_of_length_le (by rw[strB_len];omega),List.drop_of_length_le (by rw[strB_len];omega)]
    ·rw[Nat.min_eq_right h];congr 1
   have e3:(u.extract c u.size).size<u.size:=by rw[←strB_len,e2,List.length_drop,strB_len];omega
   obtain⟨W6,hW6⟩: ∃W6,W6=wr.alloc (.cells #[.int .u64 (leW (((strB s).drop (8*k)).take 8))] 25):=⟨_,rfl⟩
   have o6:Only [] wr W6:=by rw[hW6];exact(Only.refl [] wr).alloc _
   have z6:w.heap.size≤W6.heap.size:=by have:=o6.size;have:=hI.out.bel.size;omega
   obtain⟨i0',hi0,hz0,hz1,hz2⟩:=info_parts infoW64
   obtain⟨v',w9,hA⟩:=run_app (P:=Tryz.prog) W6 w.heap.size 22 22 25 i0' (.int .u64 0) 1 8 Tryz.underlying22 hi0 hz0 hz1 hz2 rfl (by decide) (.slice ra m rc) m (packV (strB s) k) (o6.own (by have:=hI.out.row;rw[←hm.out] at this;exact this) (by simp)) (.slice (some ⟨wr.heap.size,0,none⟩) 1 1) 1 [.int .u64 (leW (((strB s).drop (8*k)).take 8))] (Or.inr ⟨wr.heap.size,0,1,rfl,fun i v hi=>by
    rw[hW6,(Blk.new wr 25 #[.int .u64 (leW (((strB s).drop (8*k)).take 8))]).cell (0+i),Nat.zero_add];simpa using hi⟩) rfl (fun v hv=>by rw[List.mem_singleton.1 hv];rfl) (by unfold maxLen;have:=hm.out;have:=hu.out.2;omega) (by have:=hm.out;have:=hu.out.2;omega) z6
   have hrun:=hA.run
   have hown:=hA.own
   have hgr:=hA.grown
   have hob:=hA.ob
   clear hA
   obtain⟨a9,d9,rfl⟩:=row_form1 hown
   have oW:Only ((Value.slice ra m rc).ownBlock.toList) wr w9:=(o6.mono (fun _ h=>by cases h)).trans (Only.of_grown hgr (fun k hk=>by simp[hk])) (fun k hk=>Or.inl hk)
   have hI1:Hid (PckI (strB s) w (k+1) (.slice a9 (m+1) d9) w9):=by
    refine⟨?_,fun b hb=> ?_,hI.out.bel.trans (oW.below (fun y hy=>hI.out.new y (by simpa using hy)) hI.out.bel.size)⟩
    ·rw[packV_snoc,←hm.out];exact hown
    ·rcases hob with h | h
     ·exact hI.out.new b (h▸hb)
     ·rw[h] at hb
      injection hb with hb
      omega
   have HR:=hid (⟨e2,by omega⟩:strB (u.extract c u.size)=(strB s).drop (8*(k+1))∧k+1≤(s.size+7)/8)
   have HM:=hid (show m+1=k+1+1 by have:=hm.out;omega)
   have HE3:=hid e3
   rw[hW6] at hrun
   rw[hc] at TA HR HE3
   clear e1 e2 e3 hsz oW hown hgr hob o6 z6 hW6 hcm hc hus h0 hi0 hz0 hz1 hz2
   go_wp2_with fail
   refine TA.out.mono ?_
   rintro e w1 ⟨rfl,rfl⟩
   go_wp2
   go_roundw
   case rel=>exact⟨k+1,_,rfl,HR,⟨m+1,a9,d9,rfl,HM⟩,hI1⟩
   case measure=>exact HE3.out
  ·have i0: ¬(0:Int)< (u.size:Int):=by omega
   have HK:=hid (show k=(s.size+7)/8 by have:=hu.out.2;omega)
   clear h0 hus
   go_wp2
   go_ret
   have hr:=hI.out.row
   rw[HK.out,←HK.out] at hr
   exact⟨_,rfl,by rw[←HK.out];rw[←hm.out] at hr ⊢;exact hr,hI.out.bel⟩
end
theorem Equal_z (u v:Value) (xs ys:List Int) (w:World) (hu:NumsAt .u64 w u xs) (hv:NumsAt .u64 w v ys) (hl:xs.length≤1000000000) (hk:ys.length≤1000000000):
  Calls Tryz.prog 197 #[u,v] w fun e w'=>e= .returned (.bool (decide (xs=ys)))∧Below w.heap.size w w':=by
 obtain⟨uo,ucap,rfl,hua⟩:=hu
 obtain⟨vo,vcap,rfl,hva⟩:=hv
 obtain⟨n,hn⟩: ∃n,n=xs.length:=⟨_,rfl⟩
 obtain⟨m,hm⟩: ∃m,m=ys.length:=⟨_,rfl⟩
 rw[←hn,←hm]
 have HN:=hid hn
 have HM:=hid hm
 have HU:=hid hua
 have HV:=hid hva
 have n9:n≤1000000000:=by omega
 have m9:m≤1000000000:=by omega
 clear hua hva hl hk hn hm
 by_cases hnm:n=m
 ·have e0:((n:Int) !=(m:Int))=false:=by simp[hnm]
  have HNM:=hid hnm
  clear hnm
  go_enter Tryz.func197,Tryz.ntmps197
  go_wp2
  go_loopw [5,13] (fun s5 vi wr=> ∃i:Nat,vi= .int .i64 (i:Int)∧i≤n∧Hid (Below w.heap.size w wr)∧Hid (xs.take i=ys.take i)) (fun _ vi _=>n- (intOf vi).toNat)
  case atStart=>exact⟨0,rfl,Nat.zero_le _,Below.refl _ _,(by simp:xs.take 0=ys.take 0)⟩
  case round=>
   obtain⟨i,rfl,hi,hB,hT⟩:=hrel
   have i0:(0:Int)≤(i:Int):=by omega
   by_cases hlt:i<n
   ·have hnm:=HNM.out
    have hmlt:i<m:=by omega
    obtain⟨x,hx⟩: ∃x,xs[i]?=some x:=⟨_,List.getElem?_eq_getElem (by rw[←HN.out];exact hlt)⟩
    obtain⟨y,hy⟩: ∃y,ys[i]?=some y:=⟨_,List.getElem?_eq_getElem (by rw[←HM.out];exact hmlt)⟩
    obtain⟨b,off,rfl,hbl,hc⟩: ∃b off,uo=some ⟨b,off,none⟩∧b<w.heap.size∧ ∀i x,xs[i]?=some x→w.cell? ⟨b,off+i,none⟩=some (.int .u64 x):=by
     rcases HU.out with h0 | h0
     ·exfalso;rw[h0] at hx;simp at hx
     ·exact h0
    obtain⟨b',off',rfl,hbl',hc'⟩: ∃b off,vo=some ⟨b,off,none⟩∧b<w.heap.size∧ ∀i x,ys[i]?=some x→w.cell? ⟨b,off+i,none⟩=some (.int .u64 x):=by
     rcases HV.out with h0 | h0
     ·exfalso;rw[h0] at hy;simp at hy
     ·exact h0
    have y1:wr.cell? ⟨b,off+i,none⟩=some (.int .u64 x):=(hB.out.cell (p:=⟨b,off+i,none⟩) hbl).trans (hc i x hx)
    have y2:wr.cell? ⟨b',off'+i,none⟩=some (.int .u64 y):=(hB.out.cell (p:=⟨b',off'+i,none⟩) hbl').trans (hc' i y hy)
    have i1:(i:Int)< (n:Int):=by omega
    have i2:(i:Int)< (m:Int):=by omega
    have HX:=hid hx
    have HY:=hid hy
    clear hc hbl hc' hbl' hx hy hnm hmlt
    by_cases he:x=y
    ·have e1:(x !=y)=false:=by simp[he]
     have hT2:Hid (xs.take (i+1)=ys.take (i+1)):=by
      show xs.take (i+1)=ys.take (i+1)
      rw[List.take_add_one,List.take_add_one,hT.out,HX.out,HY.out,he]
     have hB2:=hid (hB.out.drew)
     clear he
     go_wp2
     go_region
     all_goals go_wp2
     go_roundw
     case rel=>exact⟨i+1,by go_num,hlt,hB2,hT2⟩
     case measure=>simp[intOf];omega
    ·have e1:(x !=y)=true:=by simp[he]
     have hd:Hid (decide (xs=ys)=false):=decide_eq_false (fun e=>he (by have h1:=HX.out;rw[e,HY.out] at h1;injection h1 with h1;exact h1.symm))
     have hB2:=hid (hB.out.drew)
     clear he
     go_wp2
     go_region
     all_goals go_wp2
     go_ret
     exact⟨by rw[hd.out];rfl,hB2.out⟩
   ·have i1: ¬(i:Int)< (n:Int):=by omega
    have hin:i=n:=by omega
    have hd:Hid (decide (xs=ys)=true):=by
     have:=hT.out
     have hnm:=HNM.out
     have hn:=HN.out
     have hm:=HM.out
     rw[List.take_of_length_le (by omega),List.take_of_length_le (by omega)] at this
     exact decide_eq_true this
    clear hi hlt hin
    go_wp2
    go_ret
    exact⟨by rw[hd.out];rfl,hB.out⟩
 ·have e0:((n:Int) !=(m:Int))=true:=by simp;omega
  have hd:Hid (decide (xs=ys)=false):=decide_eq_false (fun e=>hnm (by rw[HN.out,HM.out,e]))
  clear hnm
  go_enter Tryz.func197,Tryz.ntmps197
  go_wp2
  go_ret
  exact⟨by rw[hd.out];rfl,Below.refl _ _⟩
def chunksC (bs:List Int) (k:Nat):List Int:=(List.range k).map fun i=>leW ((bs.drop (8*i)).take 8)
theorem packC_eq (bs:List Int) (k:Nat):packC bs k=(bs.length:Int)::chunksC bs k:=rfl
theorem chunksC_succ (bs:List Int) (k:Nat):chunksC bs (k+1)=leW (bs.take 8)::chunksC (bs.drop 8) k:=by
 unfold chunksC
 rw[List.range_succ_eq_map,List.map_cons,List.map_map]
 congr 1
 apply List.map_congr_left
 intro i _
 show leW ((bs.drop (8*(i+1))).take 8)=leW (((bs.drop 8).drop (8*i)).take 8)
 rw[List.drop_drop]
 congr 3
 omega
theorem leW_app: ∀(a b:List Int),leW (a++b)=leW a+256^a.length*leW b
 | [],b=>by simp[leW]
 | x::a,b=>by
  rw[List.cons_append,leW,leW,leW_app a b,List.length_cons,Int.pow_succ,Int.mul_add,Int.mul_comm (256^a.length) 256,Int.mul_assoc]
  omega
theorem leW_zero {bs:List Int} (h: ∀x∈bs,0≤x∧x<256):leW bs=0↔ ∀x∈bs,x=0:=by
 induction bs with
 | nil=>simp[leW]
 | cons x bs ih=>
  have h1:=h x (List.mem_cons_self ..)
  have h2:=leW_bounds (bs:=bs) (fun y hy=>h y (List.mem_cons_of_mem _ hy))
  rw[leW,List.forall_mem_cons,←ih (fun y hy=>h y (List.mem_cons_of_mem _ hy))]
  omega
theorem leW_cut {bs:List Int} (h: ∀x∈bs,0≤x∧x<256) (m:Nat):leW (bs.take m)=leW bs↔ ∀x∈bs.drop m,x=0:=by
 have e:=leW_app (bs.take m) (bs.drop m)
 rw[List.take_append_drop] at e
 rw[e,←leW_zero (fun x hx=>h x (List.mem_of_mem_drop hx))]
 have hp:(0:Int)<256^ (bs.take m).length:=Int.pow_pos (by decide)
 constructor
 ·intro h0
  have h1:256^ (bs.take m).length*leW (bs.drop m)=0:=by omega
  rcases Int.mul_eq_zero.1 h1 with h | h
  ·omega
  ·exact h
 ·intro h0;rw[h0];simp
def cleanC (ns:List Nat) (n:Nat):Bool:=((bytesN ns).drop n).all (fun x=>decide (x=0))
theorem byteN_in (n j:Nat):0≤byteN n j∧byteN n j<256:=by unfold byteN;omega
theorem bytesN_in (ns:List Nat): ∀x∈bytesN ns,0≤x∧x<256:=by
 intro x hx
 unfold bytesN at hx
 obtain⟨n,_,h⟩:=List.mem_flatMap.1 hx
 obtain⟨j,_,rfl⟩:=List.mem_map.1 h
 exact byteN_in n j
theorem bytesN_cons (x:Nat) (ns:List Nat):bytesN (x::ns)=(List.range 8).map (byteN x)++bytesN ns:=by unfold bytesN;rw[List.flatMap_cons]
theorem chunks_clean: ∀(ns:List Nat) (n:Nat),(∀x∈ns,x<18446744073709551616)→ns.length=(n+7)/8→(chunksC ((bytesN ns).take n) ((n+7)/8)=ns.map (fun x:Nat=>(x:Int))↔ ∀x∈(bytesN ns).drop n,x=0)
 | [],n,h64,hl=>by
  have:n=0:=by simp at hl;omega
  subst this
  simp[chunksC,bytesN]
 | x::ns,n,h64,hl=>by
  rw[List.length_cons] at hl
  obtain⟨k,hk⟩: ∃k,(n+7)/8=k+1:=⟨(n+7)/8-1,by omega⟩
  have hwl:((List.range 8).map (byteN x)).length=8:=by simp
  have hwi: ∀y∈(List.range 8).map (byteN x),0≤y∧y<256:=by
   intro y hy
   obtain⟨j,_,rfl⟩:=List.mem_map.1 hy
   exact byteN_in x j
  have hw:=leW_word (h64 x (List.mem_cons_self ..))
  rw[hk,chunksC_succ,List.map_cons,bytesN_cons]
  by_cases h8:8≤n
  ·have e1:((List.range 8).map (byteN x)++bytesN ns).take n=(List.range 8).map (byteN x)++(bytesN ns).take (n-8):=by
    rw[List.take_append,hwl,List.take_of_length_le (by rw[hwl];exact h8)]
   have e2:((List.range 8).map (byteN x)++bytesN ns).drop n=(bytesN ns).drop (n-8):=by
    rw[List.drop_append,hwl,List.drop_of_length_le (by rw[hwl];exact h8),List.nil_append]
   rw[e1,e2,List.take_append_of_le_length (by rw[hwl];exact Nat.le_refl _),List.take_of_length_le (by rw[hwl];exact Nat.le_refl _),List.drop_append_of_le_length (by rw[hwl];exact Nat.le_refl _),List.drop_of_length_le (by rw[hwl];exact Nat.le_refl _),List.nil_append,hw]
   have hk8:(n-8+7)/8=k:=by omega
   have ih:=chunks_clean ns (n-8) (fun y hy=>h64 y (List.mem_cons_of_mem _ hy)) (by omega)
   rw[hk8] at ih
   rw[←ih]
   simp
  ·have hns:ns=[]:=by
    cases ns with
    | nil=>rfl
    | cons y ns=>simp at hl;omega
   subst hns
   have hk0:k=0:=by simp at hl;omega
   subst hk0
   have e0:bytesN []=[]:=rfl
   rw[e0,List.append_nil,List.take_take,Nat.min_eq_right (by omega:n≤8)]
   have:=leW_cut hwi n
   rw[hw] at this
   rw[←this]
   simp[chunksC]
theorem pack_clean (ns:List Nat) (n:Nat) (h64: ∀x∈ns,x<18446744073709551616) (hl:ns.length=(n+7)/8):decide (packC ((bytesN ns).take n) ((n+7)/8)=(n::ns).map (fun x:Nat=>(x:Int)))=cleanC ns n:=by
 have hbl:((bytesN ns).take n).length=n:=by rw[List.length_take,bytesN_len];omega
 have h1:=chunks_clean ns n h64 hl
 rw[packC_eq,hbl,List.map_cons]
 unfold cleanC
 rw[Bool.eq_iff_iff,decide_eq_true_iff,List.all_eq_true]
 simp only[decide_eq_true_eq]
 rw[←h1]
 simp
theorem strB_of {xs:List Int} (h: ∀x∈xs,0≤x∧x<256):strB (strOfNums xs)=xs:=by
 unfold strB
 rw[strOfNums_data,List.map_map]
 conv=>rhs;rw[←List.map_id xs]
 apply List.map_congr_left
 intro x hx
 have:=h x hx
 show((UInt8.ofNat x.toNat).toNat:Int)=x
 rw[UInt8.toNat_ofNat']
 omega
end Go.Proofs.YtjmaicckkkdjpaaGreat
