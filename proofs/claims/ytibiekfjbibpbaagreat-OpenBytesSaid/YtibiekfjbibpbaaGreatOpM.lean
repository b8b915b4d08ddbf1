/- An opening: words and their bytes, plainly; an opening's image. -/
import Derived.Test.YtibiekfjbibpbaaGreatPmT
import Derived.Test.YtibiekfjbibpbaaGreatRepM
import Derived.Test.YtibiekfjbibpbaaGreatOpB
import Derived.Test.YtibiekfjbibpbaaGreatLawCb
set_option maxRecDepth 100000
set_option maxHeartbeats 2000000
set_option linter.unusedVariables false
set_option linter.unusedSimpArgs false
namespace Go.Proofs.YtibiekfjbibpbaaGreat
open Go.RowKit
section
theorem leW_get: ∀{bs:List Int},(∀x∈bs,0≤x∧x<256)→ ∀{j:Nat} {c:Int},bs[j]?=some c→leW bs/256^j % 256=c
 | [],_,j,c,h=>by simp at h
 | x::bs,hb,0,c,h=>by
  have h1:=hb x (by simp)
  simp only[List.getElem?_cons_zero,Option.some.injEq] at h
  subst h
  rw[show leW (x::bs)=x+256*leW bs from rfl,Int.pow_zero,Int.ediv_one]
  omega
 | x::bs,hb,j+1,c,h=>by
  have h1:=hb x (by simp)
  have h2:=leW_get (bs:=bs) (fun y hy=>hb y (List.mem_cons_of_mem _ hy)) (j:=j) (c:=c) (by simpa using h)
  rw[show leW (x::bs)=x+256*leW bs from rfl,Int.pow_succ',←Int.ediv_ediv_of_nonneg (by omega),show(x+256*leW bs)/256=leW bs by omega]
  exact h2
theorem wB_leW {cs:List Int} (hb: ∀x∈cs,0≤x∧x<256) (h8:cs.length=8):wB (leW cs)=cs:=by
 apply List.ext_getElem?
 intro j
 by_cases hj:j<8
 ·obtain⟨c,hc⟩: ∃c,cs[j]?=some c:=⟨_,List.getElem?_eq_getElem (by omega)⟩
  rw[hc]
  unfold wB
  rw[List.getElem?_map,List.getElem?_range hj,Option.map_some,leW_get hb hc]
 ·rw[List.getElem?_eq_none (by rw[wB_len];omega),List.getElem?_eq_none (by omega)]
theorem bytes_words: ∀(q:Nat) {bs:List Int},(∀x∈bs,0≤x∧x<256)→bs.length=8*q→bytesW (wordsOf bs)=bs
 | 0,bs,_,h=>by
  have:bs=[]:=List.eq_nil_of_length_eq_zero (by omega)
  subst this;rfl
 | q+1,bs,hb,h=>by
  have hd:(bs.drop 8).length=8*q:=by rw[List.length_drop];omega
  have ih:=bytes_words q (bs:=bs.drop 8) (fun x hx=>hb x (List.mem_of_mem_drop hx)) hd
  have e:wordsOf bs=leW (bs.take 8)::wordsOf (bs.drop 8):=by
   unfold wordsOf
   rw[show bs.length/8=q+1 by omega,show(bs.drop 8).length/8=q by omega,List.range_succ_eq_map,List.map_cons,List.map_map]
   have h2:List.map (wAt bs∘Nat.succ) (List.range q)=List.map (wAt (bs.drop 8)) (List.range q):=List.map_congr_left fun i _=>by
    show leW ((bs.drop (8*(i+1))).take 8)=leW (((bs.drop 8).drop (8*i)).take 8)
    rw[List.drop_drop,show 8+8*i=8*(i+1) by omega]
   rw[h2]
   rfl
  rw[e]
  show wB (leW (bs.take 8))++bytesW (wordsOf (bs.drop 8))=bs
  rw[ih,wB_leW (fun x hx=>hb x (List.mem_of_mem_take hx)) (by rw[List.length_take];omega),List.take_append_drop]
theorem words_rng {bs:List Int} (hb: ∀x∈bs,0≤x∧x<256): ∀x∈wordsOf bs,0≤x∧x<18446744073709551616:=by
 intro x hx
 obtain⟨i,_,rfl⟩:=List.mem_map.1 hx
 have h1:=leW_bounds (bs:=(bs.drop (8*i)).take 8) (fun y hy=>hb y (List.mem_of_mem_drop (List.mem_of_mem_take hy)))
 have h2:(2:Int)^ (8*((bs.drop (8*i)).take 8).length)≤2^64:=by
  have h3:8*((bs.drop (8*i)).take 8).length≤64:=by rw[List.length_take];omega
  exact_mod_cast Nat.pow_le_pow_right (by omega) h3
 refine⟨h1.1,?_⟩
 show leW ((bs.drop (8*i)).take 8)<_
 omega
theorem bytesN_words {ws:List Int} (h: ∀x∈ws,0≤x):bytesN (ws.map Int.toNat)=bytesW ws:=by
 induction ws with
 | nil=>rfl
 | cons x ws ih=>
  have h1:=h x (by simp)
  have h2:=ih (fun y hy=>h y (List.mem_cons_of_mem _ hy))
  obtain⟨n,rfl⟩: ∃n:Nat,x=n:=⟨x.toNat,by omega⟩
  show(List.range 8).map (byteN n)++bytesN (ws.map Int.toNat)=wB n++bytesW ws
  rw[h2]
  congr 1
attribute [local go_sem ↓ high] append_shut2
attribute [local go_sem] Oper.semAt_some appM2_run
theorem OBytes_z (ns:List Nat) (h64: ∀x∈ns,x<18446744073709551616) (hlen:ns.length≤100000) (v:Value) (w:World) (h:NumsAt .u64 w v (ns.map fun x:Nat=>(x:Int))):
  Calls Tryz.prog 185 #[v] w fun e W'=> ∃u,e= .returned u∧W'.ownsRow w.heap.size 5 1 u (8*ns.length) (byteVs (bytesN ns))∧Below w.heap.size w W'∧(ns.length=0→u= .slice none 0 0):=by
 obtain⟨ao,cap,rfl,hcl⟩:=h
 rw[List.length_map]
 obtain⟨q,hq⟩: ∃q,q=ns.length:=⟨_,rfl⟩
 rw[←hq] at hlen ⊢
 have HQ:=hid hq
 have HC:=hid hcl
 have H64:=hid h64
 have HI0:Hid (BytI ns w 0 (.slice none 0 0) w):=⟨World.ownsRow_nil _ _ _ _,fun b hb=>by simp[Value.ownBlock] at hb,Below.refl _ _,fun _=>rfl⟩
 clear hq hcl h64
 go_enter Tryz.func185,Tryz.ntmps185
 go_wp2
 go_loopw [3,5,6,9] (fun rv s5 s6 iv wr=> ∃k:Nat,k≤q∧iv= .int .i64 k∧(∃m ra rc,rv= .slice ra m rc∧m=8*k)∧Hid (BytI ns w k rv wr)) (fun _ _ _ iv _=>(q- (intOf iv).toNat))
 case atStart=>exact⟨0,by omega,rfl,⟨0,none,0,rfl,rfl⟩,HI0⟩
 case round=>
  obtain⟨k,hk,rfl,⟨m,ra,rc,rfl,hm⟩,hI⟩:=hrel
  by_cases hlt:k<q
  ·have i1:(k:Int)< (q:Int):=by omega
   have i0:(0:Int)≤(k:Int):=by omega
   obtain⟨x,hx⟩: ∃x,ns[k]?=some x:=⟨_,List.getElem?_eq_getElem (by rw[←HQ.out];exact hlt)⟩
   obtain⟨g,off,hva,hgl,hcl⟩:=HC.out.resolve_left (fun e=>by have h:=congrArg List.length e;simp at h;rw[h] at hx;simp at hx)
   subst hva
   have c1:wr.cell? ⟨g,off+k,none⟩=some (.int .u64 (x:Int)):=(hI.out.bel.cell (p:=⟨g,off+k,none⟩) hgl).trans (hcl k _ (by rw[List.getElem?_map,hx];rfl))
   have WP:=hid (WPut_z x (H64.out x (List.mem_of_getElem? hx)) wr)
   have HX:=hid hx
   have HLT:=hid hlt
   clear hx hcl hlt hk hgl
   go_wp2_with fail
   refine WP.out.mono ?_
   rintro e w3 ⟨rfl,hb3⟩
   obtain⟨W5,hW5⟩: ∃W5,W5=w3.alloc (.cells #[.int .u8 (byteN x 0),.int .u8 (byteN x 1),.int .u8 (byteN x 2),.int .u8 (byteN x 3),.int .u8 (byteN x 4),.int .u8 (byteN x 5),.int .u8 (byteN x 6),.int .u8 (byteN x 7)] 170):=⟨_,rfl⟩
   have o5:Only [] wr W5:=by rw[hW5];exact(Only.of_below hb3 []).alloc _
   have z5:w.heap.size≤W5.heap.size:=by have:=o5.size;have:=hI.out.bel.size;omega
   obtain⟨v',w9,hrun,hown,hgr,hob⟩:=app_bytes w.heap.size W5 (.slice (some ⟨w3.heap.size,0,none⟩) 8 8) 8 (bytesN (ns.take k)) m (by rw[bytesN_len,List.length_take,hm,←HQ.out];have:=HLT.out;omega) ((List.range 8).map (byteN x)) (.slice ra m rc) (Or.inr ⟨w3.heap.size,0,8,rfl,fun j u hj=>by
    rw[hW5,((Blk.new w3 170 #[.int .u8 (byteN x 0),.int .u8 (byteN x 1),.int .u8 (byteN x 2),.int .u8 (byteN x 3),.int .u8 (byteN x 4),.int .u8 (byteN x 5),.int .u8 (byteN x 6),.int .u8 (byteN x 7)])).cell (0+j),Nat.zero_add]
    simpa[byteVs,List.range_succ] using hj⟩) (by simp) (by have:=HLT.out;omega) z5 (o5.own (by have:=hI.out.row;rw[←hm] at this;exact this) (by simp))
   obtain⟨a9,d9,rfl⟩:=row_form1 hown
   have oW:Only ((Value.slice ra m rc).ownBlock.toList) wr w9:=(o5.mono (fun _ h=>by cases h)).trans (Only.of_grown hgr (fun k hk=>by simp[hk])) (fun k hk=>Or.inl hk)
   have hI1:Hid (BytI ns w (k+1) (.slice a9 (m+8) d9) w9):=by
    refine⟨?_,fun b hb=> ?_,hI.out.bel.trans (oW.below (fun y hy=>hI.out.new y (by simpa using hy)) hI.out.bel.size),fun h0=>by omega⟩
    ·have e:ns.take (k+1)=ns.take k++[x]:=by rw[List.take_add_one,HX.out];rfl
     rw[e,bytesN_snoc,show 8*(k+1)=m+8 by omega]
     exact hown
    ·rcases hob with h | h
     ·exact hI.out.new b (h▸hb)
     ·rw[h] at hb
      injection hb with hb
      omega
   have hm1:m+8=8*(k+1):=by omega
   have HM1:=hid hm1
   rw[hW5] at hrun
   clear oW hown hgr hob o5 z5 hb3 hm1 c1 WP hW5 hm
   unfold putV
   go_wp2
   go_roundw
   case rel=>exact⟨k+1,HLT.out,by go_num,⟨m+8,a9,d9,rfl,HM1.out⟩,hI1⟩
   case measure=>simp[intOf];have:=HLT.out;omega
  ·obtain rfl:k=q:=by omega
   have i1: ¬(k:Int)< (k:Int):=by omega
   have HM:=hid hm
   clear hlt hk hm
   go_wp2
   go_ret
   have hr:=hI.out.row
   rw[List.take_of_length_le (by have:=HQ.out;omega)] at hr
   exact⟨_,rfl,hr,hI.out.bel,hI.out.zero⟩
theorem OImage_z (N q:Nat) (o m:Nat) (tv wv st:Value) (dn:Bool) (bad:Int) (pv rv fv kv:Value) (h nn:Int) (bs:List Int) (hb: ∀x∈bs,0≤x∧x<256) (hq:bs.length=8*q) (hq0:0<q) (hq1:q≤100000) (w:World) (ho:Blk w o 212 (opnC m tv wv st dn bad pv rv fv kv h nn))
  (hw:w.ownsRow N 46 1 wv q ((wordsOf bs).map (Value.int .u64))):
  Calls Tryz.prog 123 #[.pointer (some ⟨o,0,none⟩)] w fun e w'=> ∃g c,e= .returned (.slice (some ⟨g,0,none⟩) bs.length c)∧BytesIn w' (some ⟨g,0,none⟩) c bs∧c≤9223372036854775807∧Below w.heap.size w w':=by
 have y2:w.cell? ⟨o,2,none⟩=some wv:=ho.cell 2
 have hwl:(wordsOf bs).length=q:=by simp[wordsOf];omega
 have hr:=words_rng hb
 have e1:((wordsOf bs).map Int.toNat).map (fun x:Nat=>(x:Int))=wordsOf bs:=by
  rw[List.map_map]
  conv=>rhs;rw[←List.map_id (wordsOf bs)]
  exact List.map_congr_left fun x hx=>by have:=hr x hx;simp;omega
 have hn:NumsAt .u64 w wv (((wordsOf bs).map Int.toNat).map fun x:Nat=>(x:Int)):=by
  rw[e1]
  obtain⟨g,cap,hv,_,hgl,hcl⟩:=words_of_own hw hq0
  exact⟨_,cap,by rw[hv,hwl],Or.inr ⟨g,0,rfl,hgl,fun i x hx=>by rw[Nat.zero_add];exact hcl.cell hx⟩⟩
 have OB:=hid (OBytes_z ((wordsOf bs).map Int.toNat) (by
  intro x hx
  obtain⟨y,hy,rfl⟩:=List.mem_map.1 hx
  have:=hr y hy
  omega) (by rw[List.length_map,hwl];exact hq1) wv w hn)
 have E:=hid (bytesN_words (fun x hx=>(hr x hx).1) |>.trans (bytes_words q hb hq))
 clear hn e1 hr hw ho
 go_enter Tryz.func123,Tryz.ntmps123
 go_wp2_with fail
 refine OB.out.mono ?_
 rintro e w1 ⟨u,rfl,hown,hbl,_⟩
 have hU:=hid hown
 have HB:=hid hbl
 clear hown hbl OB
 go_wp2
 go_ret
 have h1:=hU.out
 rw[E.out,List.length_map,hwl] at h1
 rcases h1.2 with⟨_,h2⟩ | ⟨g,cap,cur,h2,h3,h4,h5,h5',h6,h7⟩
 ·omega
 ·have hgl:=(Array.getElem?_eq_some_iff.1 h4).1
  refine⟨g,cap,by rw[h2,hq];rfl,⟨by omega,hb,fun _=>⟨g,0,rfl,hgl,fun i x hx=> ?_⟩⟩,by unfold maxLen at h5';omega,HB.out⟩
  have hi:=(List.getElem?_eq_some_iff.1 hx).1
  have h9:(cur.toList.take (8*q*1))[i]?=some (.int .u8 x):=by rw[h7];unfold byteVs;rw[List.getElem?_map,hx];rfl
  rw[List.getElem?_take,if_pos (by omega)] at h9
  rw[Nat.zero_add,(show Blk w1 g 5 cur from h4).cell]
  simpa using h9
theorem NewsAt.only {f:List Nat} {w w':World} {x:Value} {m:Nat} {news:List Value} (h:NewsAt w x m news) (ho:Only f w w') (hf: ∀k,x.ownBlock=some k→k∉f):NewsAt w' x m news:=by
 rcases h with h | ⟨b,off,c,rfl,h2⟩
 ·exact Or.inl h
 ·exact Or.inr ⟨b,off,c,rfl,fun j u hj=>(World.cell?_of_block (w:=w) (a:=⟨b,off+j,none⟩) (ho.block b (World.block_lt_of_cell? w _ (h2 j u hj)) (hf b rfl))).trans (h2 j u hj)⟩
theorem NumsAt.only {f:List Nat} {k0:IntKind} {w w':World} {x:Value} {xs:List Int} (h:NumsAt k0 w x xs) (ho:Only f w w') (hf: ∀k,x.ownBlock=some k→k∉f):NumsAt k0 w' x xs:=by
 obtain⟨ao,cap,rfl,h2⟩:=h
 refine⟨ao,cap,rfl,?_⟩
 rcases h2 with h2 | ⟨b,off,rfl,h4,h5⟩
 ·exact Or.inl h2
 ·exact Or.inr ⟨b,off,rfl,Nat.lt_of_lt_of_le h4 ho.size,fun i x hi=>(World.cell?_of_block (w:=w) (a:=⟨b,off+i,none⟩) (ho.block b h4 (hf b rfl))).trans (h5 i x hi)⟩
def FarR (f:List Nat) (pv rv fv kv:Value):Prop:= ∀v∈[pv,rv,fv,kv],∀k,v.ownBlock=some k→k∉f
theorem RepAt.only {f:List Nat} {w w':World} {pv rv fv kv:Value} {ps:List (Int×ByteArray)} {R F K:List Int} (h:RepAt w pv rv fv kv ps R F K) (ho:Only f w w') (hf:FarR f pv rv fv kv):RepAt w' pv rv fv kv ps R F K:=
 ⟨h.pa.only ho (hf pv (by simp)),h.pc,h.ra.only ho (hf rv (by simp)),h.fa.only ho (hf fv (by simp)),h.ka.only ho (hf kv (by simp))⟩
theorem look_new {bs:List Int} {w w':World} {pv rv fv kv x y z:Value} (h:LookPost bs w (.returned (.tuple #[.agg #[pv,rv,fv,kv,x,y],z])) w'): ∀v∈[pv,rv,fv,kv],∀k,v.ownBlock=some k→w.heap.size≤k:=by
 intro v hv k hk
 obtain⟨_,(⟨rs,ps,leaves,R,B,p1,r1,f1,k1,_,_,_,_,he,q1,q2,q3,q4⟩ | ⟨_,he⟩)⟩:=h
 ·have e1:pv=p1∧rv=r1∧fv=f1∧kv=k1:=by
   injection he with he;injection he with he;simp at he;exact⟨he.1.1,he.1.2.1,he.1.2.2.1,he.1.2.2.2.1⟩
  obtain⟨rfl,rfl,rfl,rfl⟩:=e1
  simp only[List.mem_cons,List.not_mem_nil,or_false] at hv
  rcases hv with rfl | rfl | rfl | rfl
  ·exact(own_block q1.own k hk).1
  ·exact(own_blockU q2 k hk).1
  ·exact(own_blockU q3 k hk).1
  ·exact(own_blockU q4 k hk).1
 ·have e1:pv= .slice none 0 0∧rv= .slice none 0 0∧fv= .slice none 0 0∧kv= .slice none 0 0:=by
   injection he with he;injection he with he;simp at he;exact⟨he.1.1,he.1.2.1,he.1.2.2.1,he.1.2.2.2.1⟩
  obtain⟨rfl,rfl,rfl,rfl⟩:=e1
  simp only[List.mem_cons,List.not_mem_nil,or_false] at hv
  rcases hv with rfl | rfl | rfl | rfl<;>cases hk
structure OpnD (w:World) (o m:Nat) (B:MB) (M:MemS) (bs:List Int) (tv wv:Value) (dn:Bool) (bad:Int) (h nn:Int) (ps:List (Int×ByteArray)) (R F K:List Int) (pv rv fv kv:Value):Prop where
 mem:MemIs w m B M
 blk:Blk w o 212 (opnC m tv wv (stepV o) dn bad pv rv fv kv h nn)
 tv: ∃a c,tv= .slice a 0 c
 rep:RepAt w pv rv fv kv ps R F K
 far:FarR (o::footM m B M) pv rv fv kv
 ap:o∉footM m B M
 own:w.ownsRow 0 46 1 wv M.view.length (M.view.map (Value.int .u64))
 aw: ∀b,wv.ownBlock=some b→b≠o∧b∉footM m B M
theorem OLoad_last (N:Nat) (o m:Nat) (B:MB) (M:MemS) (k c tg:Nat) (wv:Value) (w:World) (H:OpnL N w o m B M k 1 c tg wv) (bs:List Int) (hb: ∀x∈bs,0≤x∧x<256) (hbs:wordsOf bs=M.view) (h8:bs.length=8*(k+1)) (hk5:k+1≤100000) (err h nn:Int) (ps:List (Int×ByteArray)) (R F K:List Int)
  (hlk: ∀w w' e,LookPost bs w e w'→Below w.heap.size w w'∧AnsOf h nn err ps R F K e w'):
  Calls Tryz.prog 110 #[.pointer (some ⟨o,0,none⟩)] w fun e w'=>e= .returned (.tuple #[.bool true,.int .i64 err])∧
   ∃tv wv' pv rv fv kv s,s.a=(M.st.a+1)% 18446744073709551616∧s.b=M.st.b∧s.c=M.st.c∧s.d=M.st.d∧OpnD w' o m B { M with st:=s } bs tv wv' false 0 h nn ps R F K pv rv fv kv∧Only (o::m::wv.ownBlock.toList) w w':=by
 have hk:k<M.view.length:=by have:=H.len;omega
 have h:=H
 clear H
 have LZ:=hid (Load_z m B M k hk w.drew (h.mem.only ((Only.refl [] w).drew) (by simp)))
 have LZ2:=hid (Load_z m B M k hk w (h.mem))
 have y0:w.cell? ⟨o,0,none⟩=some (ptrV m):=h.blk.cell 0
 have y1:w.cell? ⟨o,1,none⟩=some (.slice (some ⟨tg,k,none⟩) 1 c):=h.blk.cell 1
 have y2:w.cell? ⟨tg,k,none⟩=some (.int .u64 (8*(k:Int))):=h.todo k (by omega)
 have z0:w.drew.cell? ⟨o,0,none⟩=some (ptrV m):=y0
 have z1:w.drew.cell? ⟨o,1,none⟩=some (.slice (some ⟨tg,k,none⟩) 1 c):=y1
 have z2:w.drew.cell? ⟨tg,k,none⟩=some (.int .u64 (8*(k:Int))):=y2
 have i0:(0:Int)< ((1:Nat):Int):=by omega
 have KF:Hid (∀W,Only [m] w.drew W→W.cell? ⟨o,0,none⟩=some (ptrV m)∧W.cell? ⟨o,1,none⟩=some (.slice (some ⟨tg,k,none⟩) 1 c)∧W.cell? ⟨tg,k,none⟩=some (.int .u64 (8*(k:Int)))):=by
  intro W hW
  have hb:Blk W o 212 _:=hW.blk h.blk.drew (by simp only[List.mem_singleton];exact fun e=>h.ap.1 (by rw[e];simp[footM]))
  refine⟨hb.cell 0,hb.cell 1,?_⟩
  exact(World.cell?_of_block (w:=w.drew) (a:=⟨tg,k,none⟩) (hW.block tg h.tl (by simp only[List.mem_singleton];exact fun e=>h.ap.2.2 (by rw[e];simp[footM])))).trans y2
 obtain⟨X,hX⟩: ∃X,X=M.view[k]'hk:=⟨_,rfl⟩
 rw[←hX] at LZ LZ2
 have HX:=hid hX
 have H:=hid h
 clear h hX
 have hlk:=hid hlk
 go_enter Tryz.func110,Tryz.ntmps110
 go_upto_region 1 with fail
 go_region_held3 (fun W=>W.cell? ⟨o,0,none⟩=some (ptrV m)∧W.cell? ⟨o,1,none⟩=some (.slice (some ⟨tg,k,none⟩) 1 c)∧W.cell? ⟨tg,k,none⟩=some (.int .u64 (8*(k:Int)))) (go_keep)
  ((go_at_call 173;refine LZ.out.mono ?_;rintro e w1 ⟨rfl,s1,a1,a2,a3,a4,hM1,ho1⟩;obtain⟨x0,x1,x2⟩:=KF.out w1 ho1;have HM1:=hid hM1;have HO1:=hid ho1;have HS1:=hid (⟨a1,a2,a3,a4⟩:_∧_∧_∧_);clear hM1 ho1 a1 a2 a3 a4))
 have hB1:Blk w1 o 212 (opnC m (.slice (some ⟨tg,k,none⟩) 1 c) wv (stepV o) false 0 nilS nilS nilS nilS 0 0):=HO1.out.blk H.out.blk.drew (by simp only[List.mem_singleton];exact fun e=>H.out.ap.1 (by rw[e];simp[footM]))
 have hown1:w1.ownsRow N 46 1 wv k ((M.view.take k).map (Value.int .u64)):=HO1.out.own (((Only.refl [] w).drew).own H.out.own (by simp)) (fun b hb hc=>(H.out.aw b hb).2.2 (by rw[List.mem_singleton.1 hc];simp[footM]))
 have htk:(M.view.take k).length=k:=by have:=H.out.len;simp;omega
 have hNw:N≤w1.heap.size:=Nat.le_trans H.out.lo.1 (Nat.le_of_lt hB1.lt)
 have hbig:=H.out.mem.big
 obtain⟨va,vc,w9,hrun,hown9,ho9,hob9⟩:=w64_push (W:=w1.drew) (xs:=M.view.take k) (by rw[htk];exact((Only.refl [] w1).drew).own hown1 (by simp)) hNw X (by have:=H.out.len;rw[htk];omega)
 rw[htk] at hrun hown9 hob9
 have hW9:Only wv.ownBlock.toList w1 w9:=((Only.refl _ w1).drew).trans ho9 (fun x hx=>Or.inl hx)
 have hno:o∉wv.ownBlock.toList:=fun hc=>(H.out.aw o (by simpa using hc)).1 rfl
 have hB9:=hW9.blk hB1 hno
 have hBd:Blk w1.drew o 212 _:=hB1.drew
 have hBa:Blk (w1.drew.alloc (.cells #[.int .u64 X] 46)) o 212 _:=hBd.alloc _
 have d1:w1.drew.cell? ⟨o,1,none⟩=some (.slice (some ⟨tg,k,none⟩) 1 c):=hBd.cell 1
 have d2:w1.drew.cell? ⟨o,2,none⟩=some wv:=hBd.cell 2
 have e1:(w1.drew.alloc (.cells #[.int .u64 X] 46)).cell? ⟨o,1,none⟩=some (.slice (some ⟨tg,k,none⟩) 1 c):=hBa.cell 1
 have e2:(w1.drew.alloc (.cells #[.int .u64 X] 46)).cell? ⟨o,2,none⟩=some wv:=hBa.cell 2
 have f1:(w1.alloc (.cells #[.int .u64 X] 46)).drew.cell? ⟨o,1,none⟩=some (.slice (some ⟨tg,k,none⟩) 1 c):=e1
 have f2:(w1.alloc (.cells #[.int .u64 X] 46)).drew.cell? ⟨o,2,none⟩=some wv:=e2
 have g1:w9.cell? ⟨o,1,none⟩=some (.slice (some ⟨tg,k,none⟩) 1 c):=hB9.cell 1
 have g2:w9.cell? ⟨o,2,none⟩=some wv:=hB9.cell 2
 have g1f:=hB9.frozen 1
 have g2f:=hB9.frozen 2
 have hrun2:appRun2 Tryz.prog #[22,22] 22 #[wv,.slice (some ⟨w1.heap.size,0,none⟩) 1 1] ((w1.alloc (.cells #[.int .u64 X] 46)).drew)= .ok (.slice va (k+1) vc) w9:=hrun
 have i4:(1:Int)≤(c:Int):=by have:=H.out.cap;omega
 have HF:=hid (⟨hB9,hown9,hW9,hob9,hno,hNw,htk⟩:_∧_∧_∧_∧_∧_∧_)
 clear hrun hB1 hown1 htk hNw hbig hown9 ho9 hob9 hW9 hno hB9 hBd hBa x0 x1 x2 y0 y1 y2 z0 z1 z2 i0
 go_upto_region 4 with fail
 go_region
 generalize(if c=1 then some (Addr.mk tg k none) else some (Addr.mk tg (k+1) none))=ta
 obtain⟨hB9,hown9,hW9,hob9,hno,hNw,htk⟩:=HF.out
 obtain⟨V,hV⟩: ∃V,V=(w9.setCell ⟨o,2,none⟩ (.slice va (k+1) vc)).setCell ⟨o,1,none⟩ (.slice ta 0 (c-1)):=⟨_,rfl⟩
 have hoV:Only [o] w9 V:=by rw[hV];exact((Only.refl _ _).setCell (Or.inl (by simp)) _).setCell (Or.inl (by simp)) _
 have hVB:Blk V o 212 (opnC m (.slice ta 0 (c-1)) (.slice va (k+1) vc) (stepV o) false 0 nilS nilS nilS nilS 0 0):=by rw[hV];exact(hB9.set_ 2 _).set_ 1 _
 obtain⟨q1,q2,q3,q4,q5,q6⟩:=OpnL.past H.out HM1.out HO1.out HX.out hown9 hW9 hob9 hoV
 rw[←hV]
 have hvl:M.view.length=k+1:=H.out.len
 have q4':V.ownsRow N 46 1 (.slice va (k+1) vc) (k+1) ((wordsOf bs).map (Value.int .u64)):=by rw[hbs];rw[List.take_of_length_le (by omega)] at q4;exact q4
 have OI:=hid (OImage_z N (k+1) o m _ _ _ _ _ _ _ _ _ _ _ bs hb h8 (by omega) hk5 V hVB q4')
 have v1:V.cell? ⟨o,1,none⟩=some (.slice ta 0 (c-1)):=hVB.cell 1
 have HV:=hid (⟨hVB,q1,q4',q5,q6,hvl⟩:_∧_∧_∧_∧_∧_)
 clear hV hoV hVB q1 q2 q3 q4 q4' q5 q6 hB9 hown9 hW9 hob9 hno hNw htk d1 d2 e1 e2 f1 f2 g1 g2 g1f g2f hrun2 HF hvl
 go_wp2_with fail
 refine OI.out.mono ?_
 rintro e w2 ⟨gi,gc,rfl,hbi,hgc,hb2⟩
 obtain⟨bn,hbn⟩: ∃bn,bn=bs.length:=⟨_,rfl⟩
 rw[←hbn]
 have LK:=hid (Look_z (some ⟨gi,0,none⟩) bn gc bs hbn (by omega) hgc w2 hbi)
 have HB2:=hid hb2
 clear hb2 hbi hbn OI
 go_wp2_with fail
 refine LK.out.mono ?_
 intro e w3 hp
 have hp2:=hp
 obtain⟨hb3,pa,pc,ra,rc,fa,fc,ka,kc,rfl,hrep⟩:=hlk.out _ _ _ hp
 have HNW:=hid (look_new hp2)
 clear hp hp2
 have hB3:=(HV.out.1.bel HB2.out).bel hb3
 have c6:w3.cell? ⟨o,6,none⟩=some (nilS):=hB3.cell 6
 have f6:=hB3.frozen 6
 have c7:w3.cell? ⟨o,7,none⟩=some (nilS):=hB3.cell 7
 have f7:=hB3.frozen 7
 have c8:w3.cell? ⟨o,8,none⟩=some (nilS):=hB3.cell 8
 have f8:=hB3.frozen 8
 have c9:w3.cell? ⟨o,9,none⟩=some (nilS):=hB3.cell 9
 have f9:=hB3.frozen 9
 have c10:w3.cell? ⟨o,10,none⟩=some (.int .i64 0):=hB3.cell 10
 have f10:=hB3.frozen 10
 have c11:w3.cell? ⟨o,11,none⟩=some (.int .i64 0):=hB3.cell 11
 have f11:=hB3.frozen 11
 have HB3:=hid hB3
 have HRP:=hid hrep
 have HB23:=hid (bx HB2.out hb3)
 obtain⟨pn,hpn⟩: ∃pn,pn=ps.length:=⟨_,rfl⟩
 obtain⟨rn,hrn⟩: ∃rn,rn=R.length:=⟨_,rfl⟩
 obtain⟨fn,hfn⟩: ∃fn,fn=F.length:=⟨_,rfl⟩
 obtain⟨kn,hkn⟩: ∃kn,kn=K.length:=⟨_,rfl⟩
 rw[←hpn,←hrn,←hfn,←hkn] at HRP ⊢
 have HPN:=hid (⟨hpn,hrn,hfn,hkn⟩:_∧_∧_∧_)
 clear hrep hb3 hB3 hpn hrn hfn hkn v1
 unfold nilS at*
 go_wp2_with fail
 go_ret2
 obtain⟨V3,hV3⟩: ∃V3,V3=(((((w3.setCell ⟨o,6,none⟩ (.slice pa pn pc)).setCell ⟨o,7,none⟩ (.slice ra rn rc)).setCell ⟨o,8,none⟩ (.slice fa fn fc)).setCell ⟨o,9,none⟩ (.slice ka kn kc)).setCell ⟨o,10,none⟩ (.int .i64 h)).setCell ⟨o,11,none⟩ (.int .i64 nn):=⟨_,rfl⟩
 have ho3:Only [o] w3 V3:=by rw[hV3];exact(((((((Only.refl _ _).setCell (Or.inl (by simp)) _).setCell (Or.inl (by simp)) _).setCell (Or.inl (by simp)) _).setCell (Or.inl (by simp)) _).setCell (Or.inl (by simp)) _).setCell (Or.inl (by simp)) _)
 have hK3:Blk V3 o 212 (opnC m (.slice ta 0 (c-1)) (.slice va (k+1) vc) (stepV o) false 0 (.slice pa pn pc) (.slice ra rn rc) (.slice fa fn fc) (.slice ka kn kc) h nn):=by rw[hV3];exact(((((HB3.out.set_ 6 _).set_ 7 _).set_ 8 _).set_ 9 _).set_ 10 _).set_ 11 _
 rw[←hV3]
 obtain⟨_,q1,q4,q5,q6,hvl⟩:=HV.out
 have hfm:footM m B { M with st:=s1 }=footM m B M:=rfl
 have hoV:Only [] V w3:=Only.of_below HB23.out []
 have hall:Only [o] V V3:=(hoV.mono (fun _ h=>by cases h)).trans ho3 (fun x hx=>Or.inl hx)
 have hfl: ∀x∈o::footM m B M,x<V.heap.size:=fun x hx=>by
  rcases List.mem_cons.1 hx with rfl | h
  ·have:=HB3.out.lt
   exact(Array.getElem?_eq_some_iff.1 (show V.heap[x]?=some _ from HV.out.1)).1
  ·exact q1.foot_lt x (by rw[hfm];exact h)
 have hfar:FarR (o::footM m B M) (.slice pa pn pc) (.slice ra rn rc) (.slice fa fn fc) (.slice ka kn kc):=by
  intro v hv x hx hc
  have h1:=HNW.out v (by rw[←HPN.out.1,←HPN.out.2.1,←HPN.out.2.2.1,←HPN.out.2.2.2];exact hv) x hx
  have h2:=hfl x hc
  have h3:=HB2.out.size
  omega
 refine⟨rfl,_,_,_,_,_,_,s1,HS1.out.1,HS1.out.2.1,HS1.out.2.2.1,HS1.out.2.2.2,⟨?_,hK3,⟨_,_,rfl⟩,HRP.out.only ho3 ?_,by rw[hfm];exact hfar,by rw[hfm];exact H.out.ap.1,?_,?_⟩,?_⟩
 ·exact q1.only hall (fun x hx=>by rw[hfm] at hx;simp only[List.mem_singleton];exact fun e=>H.out.ap.1 (e▸hx))
 ·exact fun v hv x hx hc=>hfar v hv x hx (by rw[List.mem_singleton.1 hc];simp)
 ·have h1:=hall.own q4 (fun b hb hc=>(q5 b hb).1 (List.mem_singleton.1 hc))
  rw[hbs] at h1
  show V3.ownsRow 0 46 1 _ M.view.length _
  rw[hvl]
  exact own_lo h1 (Nat.zero_le _)
 ·exact fun b hb=>⟨(q5 b hb).1,by rw[hfm];exact(q5 b hb).2.2⟩
 ·exact q6.trans hall (fun x hx=>Or.inl (by rw[List.mem_singleton.1 hx];simp))
end
section
theorem neFn (F t:Nat) (w:World):(binOp .neq 127 (.func (.func F) #[.pointer (some ⟨t,0,none⟩)] #[]) .nilFunc).run Tryz.prog w= .ok (.bool true) w:=by kernel_rfl
theorem neFnG (F t:Nat) (x y:Operand) (w:World):(eqGuard .neq 127 x y (.func (.func F) #[.pointer (some ⟨t,0,none⟩)] #[]) .nilFunc).run Tryz.prog w= .ok () w:=by cases x<;>cases y<;>kernel_rfl
attribute [local go_sem] neFn neFnG
theorem OThere_z (o m:Nat) (B:MB) (n:Nat) (s:St4) (hn:0<n) (hb:n≤131072) (tv wv:Value) (dn:Bool) (bad:Int) (pv rv fv kv:Value) (h nn:Int) (w:World) (hm:Blk w m 206 (memC B n s)) (ho:Blk w o 212 (opnC m tv wv (stepV o) dn bad pv rv fv kv h nn)):
  Calls Tryz.prog 170 #[.pointer (some ⟨o,0,none⟩)] w fun e w'=>e= .returned (.bool true)∧w'=w:=by
 have y0:w.cell? ⟨o,0,none⟩=some (ptrV m):=ho.cell 0
 have y3:w.cell? ⟨o,3,none⟩=some (stepV o):=ho.cell 3
 have i1:(0:Int)< (8*n:Nat):=by omega
 have SZ:=hid (Size_m m B n s hn hb w hm)
 clear hm ho
 unfold stepV at y3
 go_enter Tryz.func170,Tryz.ntmps170
 go_wp2_with fail
 refine SZ.out.mono ?_
 rintro e w1 ⟨rfl,rfl⟩
 go_wp2
 go_ret
 exact⟨by simp;omega,rfl⟩
theorem OStep_gen (o m:Nat) (B:MB) (n:Nat) (s:St4) (hn:0<n) (hb:n≤131072) (tv wv:Value) (pv rv fv kv:Value) (h nn:Int) (d:Bool) (err:Int) (R:World→Prop) (w:World) (hm:Blk w m 206 (memC B n s)) (ho:Blk w o 212 (opnC m tv wv (stepV o) false 0 pv rv fv kv h nn))
  (hR: ∀w1,R w1→ ∃tv wv pv rv fv kv h nn,Blk w1 o 212 (opnC m tv wv (stepV o) false 0 pv rv fv kv h nn))
  (hc:Calls Tryz.prog 110 #[.pointer (some ⟨o,0,none⟩)] w fun e w'=>e= .returned (.tuple #[.bool d,.int .i64 err])∧R w'):
  Calls Tryz.prog 104 #[.pointer (some ⟨o,0,none⟩)] w fun e w'=>e= .returned (.tuple #[.bool d,.int .i64 err])∧ ∃w1,R w1∧Only [o] w1 w'∧
   ∀tv wv pv rv fv kv h nn,Blk w1 o 212 (opnC m tv wv (stepV o) false 0 pv rv fv kv h nn)→Blk w' o 212 (opnC m tv wv (stepV o) d err pv rv fv kv h nn):=by
 have TH:=hid (OThere_z o m B n s hn hb tv wv false 0 pv rv fv kv h nn w hm ho)
 have y3:w.cell? ⟨o,3,none⟩=some (stepV o):=ho.cell 3
 have y4:w.cell? ⟨o,4,none⟩=some (.bool false):=ho.cell 4
 have HC:=hid hc
 have HR:=hid hR
 clear hm ho hc hR
 unfold stepV at y3
 go_enter Tryz.func104,Tryz.ntmps104
 go_wp2_with fail
 refine TH.out.mono ?_
 rintro e w1 ⟨rfl,rfl⟩
 go_wp2_with fail
 refine HC.out.mono ?_
 rintro e w1 ⟨rfl,hr⟩
 obtain⟨tv1,wv1,pv1,rv1,fv1,kv1,h1,nn1,hB1⟩:=HR.out _ hr
 have x4:w1.cell? ⟨o,4,none⟩=some (.bool false):=hB1.cell 4
 have x4f:=hB1.frozen 4
 have x5:w1.cell? ⟨o,5,none⟩=some (.int .i64 0):=hB1.cell 5
 have x5f:=hB1.frozen 5
 have HR1:=hid hr
 clear hB1 y3 y4 hr
 go_upto_region 5 with fail
 go_region
 go_wp2_with fail
 go_ret2
 exact⟨rfl,_,HR1.out,(((Only.refl _ _).setCell (Or.inl (by simp)) _).setCell (Or.inl (by simp)) _).drew,fun tv wv pv rv fv kv h nn hb=>((hb.set_ 4 _).set_ 5 _).drew⟩
theorem OStep_done (o m:Nat) (B:MB) (n:Nat) (s:St4) (hn:0<n) (hb:n≤131072) (tv wv:Value) (pv rv fv kv:Value) (h nn err:Int) (w:World) (hm:Blk w m 206 (memC B n s)) (ho:Blk w o 212 (opnC m tv wv (stepV o) true err pv rv fv kv h nn)):
  Calls Tryz.prog 104 #[.pointer (some ⟨o,0,none⟩)] w fun e w'=>e= .returned (.tuple #[.bool true,.int .i64 err])∧Below w.heap.size w w':=by
 have TH:=hid (OThere_z o m B n s hn hb tv wv true err pv rv fv kv h nn w hm ho)
 have y4:w.cell? ⟨o,4,none⟩=some (.bool true):=ho.cell 4
 have y5:w.cell? ⟨o,5,none⟩=some (.int .i64 err):=ho.cell 5
 clear hm ho
 go_enter Tryz.func104,Tryz.ntmps104
 go_wp2_with fail
 refine TH.out.mono ?_
 rintro e w1 ⟨rfl,rfl⟩
 go_upto_region 5 with fail
 go_region
 go_wp2_with fail
 go_ret2
 exact⟨rfl,(Below.refl _ _).drew⟩
theorem OOver_z (o m:Nat) (B:MB) (n:Nat) (s:St4) (hn:0<n) (hb:n≤131072) (tv wv:Value) (dn:Bool) (pv rv fv kv:Value) (h nn err:Int) (w:World) (hm:Blk w m 206 (memC B n s)) (ho:Blk w o 212 (opnC m tv wv (stepV o) dn err pv rv fv kv h nn)):
  Calls Tryz.prog 111 #[.pointer (some ⟨o,0,none⟩)] w fun e w'=>e= .returned (.int .i64 (if dn=true then err else 7))∧w'=w:=by
 have TH:=hid (OThere_z o m B n s hn hb tv wv dn err pv rv fv kv h nn w hm ho)
 have y4:w.cell? ⟨o,4,none⟩=some (.bool dn):=ho.cell 4
 have y5:w.cell? ⟨o,5,none⟩=some (.int .i64 err):=ho.cell 5
 clear hm ho
 cases dn
 all_goals
  go_enter Tryz.func111,Tryz.ntmps111
  go_wp2_with fail
  refine TH.out.mono ?_
  rintro e w1 ⟨rfl,rfl⟩
  go_wp2_with fail
  go_ret
  exact⟨rfl,rfl⟩
theorem OLeft_z (o m:Nat) (B:MB) (n:Nat) (s:St4) (hn:0<n) (hb:n≤131072) (a:Option Addr) (r c:Nat) (wv:Value) (dn:Bool) (pv rv fv kv:Value) (h nn err:Int) (w:World) (hm:Blk w m 206 (memC B n s)) (ho:Blk w o 212 (opnC m (.slice a r c) wv (stepV o) dn err pv rv fv kv h nn)):
  Calls Tryz.prog 119 #[.pointer (some ⟨o,0,none⟩)] w fun e w'=>e= .returned (.int .i64 (r:Int))∧w'=w:=by
 have TH:=hid (OThere_z o m B n s hn hb _ wv dn err pv rv fv kv h nn w hm ho)
 have y1:w.cell? ⟨o,1,none⟩=some (.slice a r c):=ho.cell 1
 clear hm ho
 go_enter Tryz.func119,Tryz.ntmps119
 go_wp2_with fail
 refine TH.out.mono ?_
 rintro e w1 ⟨rfl,rfl⟩
 go_wp2
 go_ret
 exact⟨rfl,rfl⟩
end
theorem OpnL.bel {N:Nat} {w w':World} {o m:Nat} {B:MB} {M:MemS} {k r c tg:Nat} {wv:Value} (H:OpnL N w o m B M k r c tg wv) (hb:Below w.heap.size w w'):OpnL N w' o m B M k r c tg wv:=
 have ho:Only [] w w':=Only.of_below hb []
 ⟨H.mem.only ho (by simp),H.len,H.blk.bel hb,H.cap,fun i hi=>(World.cell?_of_block (w:=w) (a:=⟨tg,i,none⟩) (ho.block tg H.tl (by simp))).trans (H.todo i hi),Nat.lt_of_lt_of_le H.tl hb.size,ho.own H.own (by simp),H.ap,H.aw,H.lo⟩
theorem OpnL.turned {N:Nat} {w w':World} {o m:Nat} {B:MB} {M:MemS} {k r c tg:Nat} {wv:Value} (H:OpnL N w o m B M k r c tg wv) (ho:Only [o] w w') (hb:Blk w' o 212 (opnC m (.slice (some ⟨tg,k,none⟩) r c) wv (stepV o) false 0 nilS nilS nilS nilS 0 0)):OpnL N w' o m B M k r c tg wv:=
 ⟨H.mem.only ho (fun x hx=>by simp only[List.mem_singleton];exact fun e=>H.ap.1 (e▸hx)),H.len,hb,H.cap,fun i hi=>(World.cell?_of_block (w:=w) (a:=⟨tg,i,none⟩) (ho.block tg H.tl (by simpa using H.ap.2.1))).trans (H.todo i hi),Nat.lt_of_lt_of_le H.tl ho.size,
  ho.own H.own (fun b hb hc=>(H.aw b hb).1 (List.mem_singleton.1 hc)),H.ap,H.aw,H.lo⟩
theorem OpnD.bel {w w':World} {o m:Nat} {B:MB} {M:MemS} {bs:List Int} {tv wv:Value} {dn:Bool} {bad h nn:Int} {ps:List (Int×ByteArray)} {R F K:List Int} {pv rv fv kv:Value} (H:OpnD w o m B M bs tv wv dn bad h nn ps R F K pv rv fv kv) (hb:Below w.heap.size w w'):OpnD w' o m B M bs tv wv dn bad h nn ps R F K pv rv fv kv:=
 have ho:Only [] w w':=Only.of_below hb []
 ⟨H.mem.only ho (by simp),H.blk.bel hb,H.tv,H.rep.bel hb,H.far,H.ap,ho.own H.own (by simp),H.aw⟩
theorem OpnD.turned {w w':World} {o m:Nat} {B:MB} {M:MemS} {bs:List Int} {tv wv:Value} {dn dn':Bool} {bad bad' h nn:Int} {ps:List (Int×ByteArray)} {R F K:List Int} {pv rv fv kv:Value} (H:OpnD w o m B M bs tv wv dn bad h nn ps R F K pv rv fv kv) (ho:Only [o] w w') (hb:Blk w' o 212 (opnC m tv wv (stepV o) dn' bad' pv rv fv kv h nn)):OpnD w' o m B M bs tv wv dn' bad' h nn ps R F K pv rv fv kv:=
 ⟨H.mem.only ho (fun x hx=>by simp only[List.mem_singleton];exact fun e=>H.ap (e▸hx)),hb,H.tv,H.rep.only ho (fun v hv k hk hc=>H.far v hv k hk (by rw[List.mem_singleton.1 hc];simp)),H.far,H.ap,ho.own H.own (fun b hb hc=>(H.aw b hb).1 (List.mem_singleton.1 hc)),H.aw⟩
theorem OStep_more (N:Nat) (o m:Nat) (B:MB) (M:MemS) (k r c tg:Nat) (wv:Value) (hr:2≤r) (w:World) (H:OpnL N w o m B M k r c tg wv):
  Calls Tryz.prog 104 #[.pointer (some ⟨o,0,none⟩)] w fun e w'=>e= .returned (.tuple #[.bool false,.int .i64 0])∧
   ∃wv' s,s.a=(M.st.a+1)% 18446744073709551616∧s.b=M.st.b∧s.c=M.st.c∧s.d=M.st.d∧OpnL N w' o m B { M with st:=s } (k+1) (r-1) (c-1) tg wv'∧Only (o::m::wv.ownBlock.toList) w w':=by
 refine(OStep_gen o m B M.view.length M.st H.mem.pos H.mem.big _ _ _ _ _ _ _ _ false 0 _ w H.mem.blk H.blk ?_ (OLoad_more N o m B M k r c tg wv hr w H)).mono ?_
 ·rintro w1 ⟨wv',s,_,_,_,_,h1,_⟩
  exact⟨_,_,_,_,_,_,_,_,h1.blk⟩
 ·rintro e w' ⟨rfl,w1,⟨wv',s,a1,a2,a3,a4,h1,h2⟩,ho,hb⟩
  exact⟨rfl,wv',s,a1,a2,a3,a4,h1.turned ho (hb _ _ _ _ _ _ _ _ h1.blk),h2.trans ho (fun x hx=>Or.inl (by rw[List.mem_singleton.1 hx];simp))⟩
theorem OStep_last (N:Nat) (o m:Nat) (B:MB) (M:MemS) (k c tg:Nat) (wv:Value) (w:World) (H:OpnL N w o m B M k 1 c tg wv) (bs:List Int) (hb: ∀x∈bs,0≤x∧x<256) (hbs:wordsOf bs=M.view) (h8:bs.length=8*(k+1)) (hk5:k+1≤100000) (err h nn:Int) (ps:List (Int×ByteArray)) (R F K:List Int)
  (hlk: ∀w w' e,LookPost bs w e w'→Below w.heap.size w w'∧AnsOf h nn err ps R F K e w'):
  Calls Tryz.prog 104 #[.pointer (some ⟨o,0,none⟩)] w fun e w'=>e= .returned (.tuple #[.bool true,.int .i64 err])∧
   ∃tv wv' pv rv fv kv s,s.a=(M.st.a+1)% 18446744073709551616∧s.b=M.st.b∧s.c=M.st.c∧s.d=M.st.d∧OpnD w' o m B { M with st:=s } bs tv wv' true err h nn ps R F K pv rv fv kv∧Only (o::m::wv.ownBlock.toList) w w':=by
 refine(OStep_gen o m B M.view.length M.st H.mem.pos H.mem.big _ _ _ _ _ _ _ _ true err _ w H.mem.blk H.blk ?_ (OLoad_last N o m B M k c tg wv w H bs hb hbs h8 hk5 err h nn ps R F K hlk)).mono ?_
 ·rintro w1 ⟨tv,wv',pv,rv,fv,kv,s,_,_,_,_,h1,_⟩
  exact⟨_,_,_,_,_,_,_,_,h1.blk⟩
 ·rintro e w' ⟨rfl,w1,⟨tv,wv',pv,rv,fv,kv,s,a1,a2,a3,a4,h1,h2⟩,ho,hb⟩
  exact⟨rfl,tv,wv',pv,rv,fv,kv,s,a1,a2,a3,a4,h1.turned ho (hb _ _ _ _ _ _ _ _ h1.blk),h2.trans ho (fun x hx=>Or.inl (by rw[List.mem_singleton.1 hx];simp))⟩
def memK (ws:List Int) (k:Nat):MemS:={ freshM ws with st:=⟨(k:Int),0,0,0⟩ }
theorem memK_next {ws:List Int} {k:Nat} {s:St4} (hk:k≤1000000) (a1:s.a=((memK ws k).st.a+1)% 18446744073709551616) (a2:s.b=(memK ws k).st.b) (a3:s.c=(memK ws k).st.c) (a4:s.d=(memK ws k).st.d):({ memK ws k with st:=s }:MemS)=memK ws (k+1):=by
 obtain⟨a,b,c,d⟩:=s
 have e1:a=(k:Int)+1:=by
  have:a=((k:Int)+1)% 18446744073709551616:=a1
  omega
 have e2:b=0:=a2
 have e3:c=0:=a3
 have e4:d=0:=a4
 subst e1 e2 e3 e4
 rfl
theorem stats_k (m:Nat) (B:MB) (ws:List Int) (k:Nat) (w:World) (h:MemIs w m B (memK ws k)):
  Calls Tryz.prog 61 #[ptrV m] w fun e w'=>e= .returned (.agg #[.int .u64 (k:Int),.int .u64 0,.int .u64 0,.int .u64 0])∧Below w.heap.size w w':=Stats_m m B _ _ h.pos w h.blk
theorem OWhole_z (N:Nat) (o m:Nat) (B:MB) (q c tg most:Nat) (bs:List Int) (hb: ∀x∈bs,0≤x∧x<256) (h8:bs.length=8*q) (hq0:0<q) (hq:q≤100000) (hmo:q≤most) (hmo2:most≤1000000) (err h nn:Int) (ps:List (Int×ByteArray)) (R F K:List Int)
  (hlk: ∀w w' e,LookPost bs w e w'→Below w.heap.size w w'∧AnsOf h nn err ps R F K e w') (w:World) (H:OpnL N w o m B (memK (wordsOf bs) 0) 0 q c tg nilS):
  Calls Tryz.prog 31 #[ptrV m,.pointer (some ⟨o,0,none⟩),.int .i64 (most:Int)] w fun e w'=>e= .returned (.int .i64 (q:Int))∧Below N w w'∧
   ∃tv wv' pv rv fv kv,OpnD w' o m B (memK (wordsOf bs) q) bs tv wv' true err h nn ps R F K pv rv fv kv:=by
 have HB:=hid hb
 have H8:=hid h8
 have HMO:=hid (⟨hmo,hmo2,hq,hq0⟩:_∧_∧_∧_)
 have HLK:=hid hlk
 have HI0:Hid (∃wv,OpnL N w o m B (memK (wordsOf bs) 0) 0 (q-0) (c-0) tg wv∧Below N w w):=hid ⟨_,H,Below.refl _ _⟩
 clear hb h8 hmo hmo2 hq hq0 hlk H
 go_enter Tryz.func31,Tryz.ntmps31
 go_wp2_with fail
 go_loopw [7,8,9,10,11] (fun iv s8 s9 s10 s11 wr=> ∃k:Nat,k<q∧iv= .int .i64 ((k:Int)+1)∧Hid (∃wv,OpnL N wr o m B (memK (wordsOf bs) k) k (q-k) (c-k) tg wv∧Below N w wr)) (fun iv _ _ _ _ _=>(q+1- (intOf iv).toNat))
 case atStart=>exact⟨0,HMO.out.2.2.2,rfl,HI0⟩
 case round=>
  obtain⟨k,hk,rfl,hI⟩:=hrel
  obtain⟨wA,rfl⟩: ∃x,x=wr:=⟨_,rfl⟩
  obtain⟨wv,hL,hbl⟩:=hI.out
  have i1:(k:Int)+1≤(most:Int):=by have:=HMO.out;omega
  have ST:=hid (stats_k m B _ k wA hL.mem)
  have HL:=hid hL
  have HBL:=hid hbl
  have HK:=hid hk
  clear hL hbl hI hk HI0
  go_wp2_with fail
  refine ST.out.mono ?_
  rintro e w2 ⟨rfl,hb2⟩
  have HL2:=hid (HL.out.bel hb2)
  have HB2:=hid (HBL.out.trans (hb2.mono (Nat.le_trans HL.out.lo.1 (Nat.le_of_lt HL.out.blk.lt))))
  clear hb2 ST
  go_wp2_with fail
  obtain⟨b8,hb8⟩: ∃b8,b8=w2.heap.size:=⟨_,rfl⟩
  obtain⟨W3,hW3⟩: ∃W3,W3=w2.alloc (.cells #[.int .u64 (k:Int),.int .u64 0,.int .u64 0,.int .u64 0] 129):=⟨_,rfl⟩
  rw[←hW3]
  rw[←hb8]
  have hb3:Below w2.heap.size w2 W3:=by rw[hW3];exact ba (Below.refl _ _) _
  have hK8:Blk W3 b8 129 #[.int .u64 (k:Int),.int .u64 0,.int .u64 0,.int .u64 0]:=by rw[hW3,hb8];exact Blk.new _ _ _
  have hL3:=HL2.out.bel hb3
  have hbl3:Below N w W3:=HB2.out.trans (hb3.mono (Nat.le_trans HL2.out.lo.1 (Nat.le_of_lt HL2.out.blk.lt)))
  have hn8:b8∉o::m::wv.ownBlock.toList:=fun hx=>by
   have h2:=HL2.out
   simp only[List.mem_cons] at hx
   rcases hx with e | e | e
   ·have:=h2.blk.lt;omega
   ·have:=h2.mem.blk.lt;omega
   ·obtain⟨_,ob,h5,_⟩:=own_block h2.own b8 (by simpa using e)
    have:=(Array.getElem?_eq_some_iff.1 h5).1
    omega
  by_cases hlast:k+1<q
  ·have SM:=hid (OStep_more N o m B _ k (q-k) (c-k) tg wv (by omega) W3 hL3)
   have HX:=hid (⟨hK8,hn8,hbl3,hL3,hlast⟩:_∧_∧_∧_∧_)
   clear hK8 hn8 hbl3 hL3 hb3 hW3 hb8 hlast HB2 HL2 HL HBL
   refine SM.out.mono ?_
   rintro e w4 ⟨rfl,wv',s,a1,a2,a3,a4,hL4,ho4⟩
   rw[memK_next (by have:=HMO.out;have:=HK.out;omega) a1 a2 a3 a4] at hL4
   have ST:=hid (stats_k m B _ (k+1) w4 hL4.mem)
   have H4:=hid (⟨hL4,ho4.blk HX.out.1 HX.out.2.1,HX.out.2.2.1.trans (HX.out.2.2.2.1.blw ho4)⟩:_∧_∧_)
   clear hL4 ho4 a1 a2 a3 a4 SM
   go_wp2_with fail
   refine ST.out.mono ?_
   rintro e w5 ⟨rfl,hb5⟩
   have d8:=(H4.out.2.1.bel hb5)
   have e0:w5.cell? ⟨b8,0,none⟩=some (.int .u64 (k:Int)):=d8.cell 0
   have e1:w5.cell? ⟨b8,1,none⟩=some (.int .u64 0):=d8.cell 1
   have e2:w5.cell? ⟨b8,2,none⟩=some (.int .u64 0):=d8.cell 2
   have e3:w5.cell? ⟨b8,3,none⟩=some (.int .u64 0):=d8.cell 3
   have hl8:b8<w5.heap.size:=d8.lt
   have hL5:=H4.out.1.bel hb5
   have H5:=hid (⟨hL5,H4.out.2.2.trans (hb5.mono (Nat.le_trans H4.out.1.lo.1 (Nat.le_of_lt H4.out.1.blk.lt)))⟩:_∧_)
   have d1:IntKind.u64.wrap (((k+1:Nat):Int)- (k:Int))=1:=by rw[show((k+1:Nat):Int)- (k:Int)=1 by omega];rfl
   clear hb5 d8 hL5 H4 ST
   have HN:Hid (∃wv,OpnL N (w5.alloc (.cells #[.int .u64 ((k:Int)+1),.int .u64 0,.int .u64 0,.int .u64 0] 129)) o m B (memK (wordsOf bs) (k+1)) (k+1) (q- (k+1)) (c- (k+1)) tg wv∧Below N w (w5.alloc (.cells #[.int .u64 ((k:Int)+1),.int .u64 0,.int .u64 0,.int .u64 0] 129))):=by
    obtain⟨h5,h6⟩:=H5.out
    have hba:Below w5.heap.size w5 (w5.alloc (.cells #[.int .u64 ((k:Int)+1),.int .u64 0,.int .u64 0,.int .u64 0] 129)):=ba (Below.refl _ _) _
    rw[Nat.sub_sub,Nat.sub_sub] at h5
    exact hid ⟨_,h5.bel hba,h6.trans (hba.mono (Nat.le_trans h5.lo.1 (Nat.le_of_lt h5.blk.lt)))⟩
   have ik:(k:Int)≤100000:=by have:=HMO.out;have:=HK.out;omega
   have i0:(0:Int)≤(k:Int):=by omega
   go_wp2_with fail
   go_roundw
   case rel=>exact⟨k+1,HX.out.2.2.2.2,by go_num,HN⟩
   case measure=>simp[intOf];have:=HX.out.2.2.2.2;omega
  ·have hqk:q-k=1:=by have:=HK.out;omega
   have hq1:q=k+1:=by omega
   rw[hqk] at hL3
   have SL:=hid (OStep_last N o m B _ k (c-k) tg wv W3 hL3 bs HB.out rfl (by rw[H8.out,hq1]) (by have:=HMO.out;omega) err h nn ps R F K HLK.out)
   have HX:=hid (⟨hK8,hn8,hbl3,hL3,hq1⟩:_∧_∧_∧_∧_)
   clear hK8 hn8 hbl3 hL3 hb3 hW3 hb8 hlast HB2 HL2 HL HBL hqk hq1
   refine SL.out.mono ?_
   rintro e w4 ⟨rfl,tv,wv',pv,rv,fv,kv,s,a1,a2,a3,a4,hD4,ho4⟩
   rw[memK_next (by have:=HMO.out;have:=HK.out;omega) a1 a2 a3 a4] at hD4
   have ST:=hid (stats_k m B _ (k+1) w4 hD4.mem)
   have H4:=hid (⟨hD4,ho4.blk HX.out.1 HX.out.2.1,HX.out.2.2.1.trans (HX.out.2.2.2.1.blw ho4)⟩:_∧_∧_)
   have hNw4:N≤w4.heap.size:=Nat.le_trans (Nat.le_trans HX.out.2.2.2.1.lo.1 (Nat.le_of_lt HX.out.2.2.2.1.blk.lt)) ho4.size
   clear hD4 ho4 a1 a2 a3 a4 SL
   go_wp2_with fail
   refine ST.out.mono ?_
   rintro e w5 ⟨rfl,hb5⟩
   have d8:=(H4.out.2.1.bel hb5)
   have e0:w5.cell? ⟨b8,0,none⟩=some (.int .u64 (k:Int)):=d8.cell 0
   have e1:w5.cell? ⟨b8,1,none⟩=some (.int .u64 0):=d8.cell 1
   have e2:w5.cell? ⟨b8,2,none⟩=some (.int .u64 0):=d8.cell 2
   have e3:w5.cell? ⟨b8,3,none⟩=some (.int .u64 0):=d8.cell 3
   have hl8:b8<w5.heap.size:=d8.lt
   have hba:Below w5.heap.size w5 (w5.alloc (.cells #[.int .u64 ((k:Int)+1),.int .u64 0,.int .u64 0,.int .u64 0] 129)):=ba (Below.refl _ _) _
   have H5:=hid (⟨H4.out.1.bel (bx hb5 hba),H4.out.2.2.trans ((bx hb5 hba).mono hNw4)⟩:_∧_)
   have d1:IntKind.u64.wrap (((k+1:Nat):Int)- (k:Int))=1:=by rw[show((k+1:Nat):Int)- (k:Int)=1 by omega];rfl
   clear hb5 d8 H4 ST hba hNw4
   go_wp2_with fail
   go_ret
   obtain⟨h5,h6⟩:=H5.out
   have hq1:=HX.out.2.2.2.2
   subst hq1
   exact⟨by simp,h6,tv,wv',pv,rv,fv,kv,h5⟩
end Go.Proofs.YtibiekfjbibpbaaGreat
