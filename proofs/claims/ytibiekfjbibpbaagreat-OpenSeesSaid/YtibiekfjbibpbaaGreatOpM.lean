import Derived.Test.YtibiekfjbibpbaaGreatOpB
import Derived.Test.YtibiekfjbibpbaaGreatByteW
set_option maxRecDepth 100000
set_option maxHeartbeats 2000000
set_option linter.unusedVariables false
set_option linter.unusedSimpArgs false
namespace Go.Proofs.YtibiekfjbibpbaaGreat
open Go.RowKit
section
theorem x7y:∀{bs:List Int},(∀x∈bs,0<=x/\x<256)-> ∀{j:Nat} {c:Int},bs[j]?=some c->leW bs/256^j % 256=c
 | [],_,j,c,h=>by simp at h
 | x::bs,hb,0,c,h=>by have h1:=hb x (by simp);simp only[List.getElem?_cons_zero,Option.some.injEq] at h;subst h;rw[show leW (x::bs)=x+256*leW bs from rfl,Int.pow_zero,Int.ediv_one];omega
 | x::bs,hb,j+1,c,h=>by have h1:=hb x (by simp);have h2:=x7y (bs:=bs) (fun y hy=>hb y (AW _ hy)) (j:=j) (c:=c) (by simpa using h);rw[show leW (x::bs)=x+256*leW bs from rfl,Int.pow_succ',<- Int.ediv_ediv_of_nonneg (by omega),show(x+256*leW bs)/256=leW bs by omega];exact h2
theorem v9d {cs:List Int} (hb:∀x∈cs,0<=x/\x<256) (h8:cs.length=8):wB (leW cs)=cs:=by
 apply Bf;intro j;by_cases hj:j<8;·obtain⟨c,hc⟩:∃c,cs[j]?=some c:=⟨_,AD (by omega)⟩;rw[hc];unfold wB;rw[AM,BM hj,Option.map_some,x7y hb hc]
 ·rw[Ax (by rw[v4k];omega),Ax (by omega)]
theorem q8l:∀(q:Nat) {bs:List Int},(∀x∈bs,0<=x/\x<256)->bs.length=8*q->q3m (q0b bs)=bs
 | 0,bs,_,h=>by have:bs=[]:=BC (by omega);subst this;rfl
 | q+1,bs,hb,h=>by
  have hd:(bs.drop 8).length=8*q:=by rw[At];omega
  have ih:=q8l q (bs:=bs.drop 8) (fun x hx=>hb x (Ak hx)) hd
  have e:q0b bs=leW (bs.take 8)::q0b (bs.drop 8):=by
   unfold q0b;rw[show bs.length/8=q+1 by omega,show(bs.drop 8).length/8=q by omega,Cn,Be,BU];have h2:List.map (wAt bs∘Nat.succ) (List.range q)=List.map (wAt (bs.drop 8)) (List.range q):=CK fun i _=>by show leW ((bs.drop (8*(i+1))).take 8)=leW (((bs.drop 8).drop (8*i)).take 8);rw[DW,show 8+8*i=8*(i+1) by omega]
   rw[h2];rfl
  rw[e];show wB (leW (bs.take 8))++q3m (q0b (bs.drop 8))=bs;rw[ih,v9d (fun x hx=>hb x (Ab hx)) (by rw[AU];omega),CR]
theorem z8k {bs:List Int} (hb:∀x∈bs,0<=x/\x<256):∀x∈q0b bs,0<=x/\x<18446744073709551616:=by
 intro x hx;obtain⟨i,_,rfl⟩:=Aj.1 hx;have h1:=q1h (bs:=(bs.drop (8*i)).take 8) (fun y hy=>hb y (Ak (Ab hy)))
 have h2:(2:Int)^ (8*((bs.drop (8*i)).take 8).length)<=2^64:=by
  have h3:8*((bs.drop (8*i)).take 8).length<=64:=by rw[AU];omega
  exact_mod_cast As (by omega) h3
 refine⟨h1.1,?_⟩;show leW ((bs.drop (8*i)).take 8)<_;omega
theorem z8m {ws:List Int} (h:∀x∈ws,0<=x):q0i (ws.map Int.toNat)=q3m ws:=by
 induction ws with
 | nil=>rfl
 | cons x ws ih=>have h1:=h x (by simp);have h2:=ih (fun y hy=>h y (AW _ hy));obtain⟨n,rfl⟩:∃n:Nat,x=n:=⟨x.toNat,by omega⟩;show(List.range 8).map (q0g n)++q0i (ws.map Int.toNat)=wB n++q3m ws;rw[h2];congr 1
attribute [local go_sem ↓ high] q0v
attribute [local go_sem] Oper.semAt_some q0h
theorem v3z (ns:List Nat) (h1:∀x∈ns,x<18446744073709551616) (S:ns.length<=100000) (v:Value) (w:World) (h:q1w .u64 w v (ns.map fun x:Nat=>(x:Int))):
  Calls Tryz.prog 185 #[v] w fun e W'=> ∃u,e= .returned u/\W'.ownsRow w.heap.size 5 1 u (8*ns.length) (q2u (q0i ns))/\Below w.heap.size w W'/\(ns.length=0->u= .slice none 0 0):=by
 obtain⟨ao,cap,rfl,L⟩:=h;rw[AO];obtain⟨q,hq⟩:∃q,q=ns.length:=⟨_,rfl⟩;rw[<- hq] at S ⊢;have HQ:=hid hq;have HC:=hid L;have ha:=hid h1;have h9:Hid (BytI ns w 0 (.slice none 0 0) w):=⟨World.ownsRow_nil _ _ _ _,fun b hb=>by simp[Value.ownBlock] at hb,Below.refl _ _,fun _=>rfl⟩;clear hq L h1;go_enter Tryz.func185,Tryz.ntmps185;go_wp2;go_loopw [3,5,6,9] (fun rv s5 s6 iv wr=> ∃k:Nat,k<=q/\iv= .int .i64 k/\(∃m ra rc,rv= .slice ra m rc/\m=8*k)/\Hid (BytI ns w k rv wr)) (fun _ _ _ iv _=>(q- (intOf iv).toNat));case atStart=>exact⟨0,by omega,rfl,⟨0,none,0,rfl,rfl⟩,h9⟩
 case round=>
  obtain⟨k,hk,rfl,⟨m,ra,rc,rfl,hm⟩,hI⟩:=hrel;by_cases hlt:k<q
  ·have i1:(k:Int)< (q:Int):=by omega
   have i0:(0:Int)<=(k:Int):=by omega
   obtain⟨x,hx⟩:∃x,ns[k]?=some x:=⟨_,AD (by rw[<- HQ.out];exact hlt)⟩;obtain⟨g,off,h7,h4,L⟩:=HC.out.resolve_left (fun e=>by have h:=congrArg List.length e;simp at h;rw[h] at hx;simp at hx);subst h7;have c1:wr.cell? ⟨g,off+k,none⟩=some (.int .u64 (x:Int)):=(hI.out.bel.cell (p:=⟨g,off+k,none⟩) h4).trans (L k _ (by rw[AM,hx];rfl));have WP:=hid (v3o x (ha.out x (AJ hx)) wr);have HX:=hid hx;have M:=hid hlt;clear hx L hlt hk h4;go_wp2_with fail;refine WP.out.mono ?_;rintro e w3 ⟨rfl,Y⟩;obtain⟨W5,O⟩:∃W5,W5=w3.alloc (.cells #[.int .u8 (q0g x 0),.int .u8 (q0g x 1),.int .u8 (q0g x 2),.int .u8 (q0g x 3),.int .u8 (q0g x 4),.int .u8 (q0g x 5),.int .u8 (q0g x 6),.int .u8 (q0g x 7)] 170):=⟨_,rfl⟩;have o5:Only [] wr W5:=by rw[O];exact(Only.of_below Y []).alloc _
   have z5:w.heap.size<=W5.heap.size:=by have:=o5.size;have:=hI.out.bel.size;omega
   obtain⟨v',w9,U,I,h3,h2⟩:=z2m w.heap.size W5 (.slice (some ⟨w3.heap.size,0,none⟩) 8 8) 8 (q0i (ns.take k)) m (by rw[q2f,AU,hm,<- HQ.out];have:=M.out;omega) ((List.range 8).map (q0g x)) (.slice ra m rc) (Or.inr ⟨w3.heap.size,0,8,rfl,fun j u hj=>by rw[O,((Blk.new w3 170 #[.int .u8 (q0g x 0),.int .u8 (q0g x 1),.int .u8 (q0g x 2),.int .u8 (q0g x 3),.int .u8 (q0g x 4),.int .u8 (q0g x 5),.int .u8 (q0g x 6),.int .u8 (q0g x 7)])).cell (0+j),AQ];simpa[q2u,List.range_succ] using hj⟩) (by simp) (by have:=M.out;omega) z5 (o5.own (by have:=hI.out.row;rw[<- hm] at this;exact this) (by simp));obtain⟨a9,d9,rfl⟩:=q0q I;have oW:Only ((Value.slice ra m rc).ownBlock.toList) wr w9:=(o5.mono (fun _ h=>by cases h)).trans (Only.of_grown h3 (fun k hk=>by simp[hk])) (fun k hk=>Or.inl hk)
   have h8:Hid (BytI ns w (k+1) (.slice a9 (m+8) d9) w9):=by
    refine⟨?_,fun b hb=> ?_,hI.out.bel.trans (oW.below (fun y hy=>hI.out.new y (by simpa using hy)) hI.out.bel.size),fun h0=>by omega⟩
    ·have e:ns.take (k+1)=ns.take k++[x]:=by rw[Ai,HX.out];rfl
     rw[e,q8e,show 8*(k+1)=m+8 by omega];exact I
    ·rcases h2 with h|h;·exact hI.out.new b (h▸hb)
     ·rw[h] at hb;injection hb with hb;omega
   have h5:m+8=8*(k+1):=by omega
   have h6:=hid h5;rw[O] at U;clear oW I h3 h2 o5 z5 Y h5 c1 WP O hm;unfold putV;go_wp2;go_roundw;case rel=>exact⟨k+1,M.out,by go_num,⟨m+8,a9,d9,rfl,h6.out⟩,h8⟩
   case measure=>simp[intOf];have:=M.out;omega
  ·obtain rfl:k=q:=by omega
   have i1: ¬(k:Int)< (k:Int):=by omega
   have HM:=hid hm;clear hlt hk hm;go_wp2;go_ret;have hr:=hI.out.row;rw[AY (by have:=HQ.out;omega)] at hr;exact⟨_,rfl,hr,hI.out.bel,hI.out.zero⟩
theorem v2w (N q:Nat) (o m:Nat) (tv wv st:Value) (dn:Bool) (bad:Int) (pv rv fv kv:Value) (h nn:Int) (bs:List Int) (hb:∀x∈bs,0<=x/\x<256) (hq:bs.length=8*q) (Y:0<q) (S:q<=100000) (w:World) (ho:Blk w o 212 (opnC m tv wv st dn bad pv rv fv kv h nn))
  (hw:w.ownsRow N 46 1 wv q ((q0b bs).map (Value.int .u64))):
  Calls Tryz.prog 123 #[.pointer (some ⟨o,0,none⟩)] w fun e w'=> ∃g c,e= .returned (.slice (some ⟨g,0,none⟩) bs.length c)/\q1m w' (some ⟨g,0,none⟩) c bs/\c<=9223372036854775807/\Below w.heap.size w w':=by
 have y2:w.cell? ⟨o,2,none⟩=some wv:=ho.cell 2;have M:(q0b bs).length=q:=by simp[q0b];omega
 have hr:=z8k hb
 have e1:((q0b bs).map Int.toNat).map (fun x:Nat=>(x:Int))=q0b bs:=by
  rw[BU]
  conv=>rhs;rw[<- List.map_id (q0b bs)]
  exact CK fun x hx=>by have:=hr x hx;simp;omega
 have hn:q1w .u64 w wv (((q0b bs).map Int.toNat).map fun x:Nat=>(x:Int)):=by rw[e1];obtain⟨g,cap,hv,_,L,U⟩:=q7x hw Y;exact⟨_,cap,by rw[hv,M],Or.inr ⟨g,0,rfl,L,fun i x hx=>by rw[AQ];exact U.cell hx⟩⟩
 have OB:=hid (v3z ((q0b bs).map Int.toNat) (by intro x hx;obtain⟨y,hy,rfl⟩:=Aj.1 hx;have:=hr y hy;omega) (by rw[AO,M];exact S) wv w hn)
 have E:=hid (z8m (fun x hx=>(hr x hx).1) |>.trans (q8l q hb hq));clear hn e1 hr hw ho;go_enter Tryz.func123,Tryz.ntmps123;go_wp2_with fail;refine OB.out.mono ?_;rintro e w1 ⟨u,rfl,I,hbl,_⟩;have hU:=hid I;have HB:=hid hbl;clear I hbl OB;go_wp2;go_ret;have h1:=hU.out;rw[E.out,AO,M] at h1;rcases h1.2 with⟨_,h2⟩|⟨g,cap,O,h2,h3,h4,h5,h8,h6,h7⟩;·omega
 ·have L:=(AA.1 h4).1;refine⟨g,cap,by rw[h2,hq];rfl,⟨by omega,hb,fun _=>⟨g,0,rfl,L,fun i x hx=> ?_⟩⟩,by unfold maxLen at h8;omega,HB.out⟩;have hi:=(AE.1 hx).1;have h9:(O.toList.take (8*q*1))[i]?=some (.int .u8 x):=by rw[h7];unfold q2u;rw[AM,hx];rfl
  rw[AV,if_pos (by omega)] at h9;rw[AQ,(show Blk w1 g 5 O from h4).cell];simpa using h9
theorem q1b.only {f:List Nat} {w w':World} {x:Value} {m:Nat} {news:List Value} (h:q1b w x m news) (ho:Only f w w') (hf:∀k,x.ownBlock=some k->k∉f):q1b w' x m news:=by
 rcases h with h|⟨b,off,c,rfl,h2⟩;·exact Or.inl h
 ·exact Or.inr ⟨b,off,c,rfl,fun j u hj=>(World.cell?_of_block (w:=w) (a:=⟨b,off+j,none⟩) (ho.block b (World.block_lt_of_cell? w _ (h2 j u hj)) (hf b rfl))).trans (h2 j u hj)⟩
theorem q1w.only {f:List Nat} {k0:IntKind} {w w':World} {x:Value} {xs:List Int} (h:q1w k0 w x xs) (ho:Only f w w') (hf:∀k,x.ownBlock=some k->k∉f):q1w k0 w' x xs:=by
 obtain⟨ao,cap,rfl,h2⟩:=h;refine⟨ao,cap,rfl,?_⟩;rcases h2 with h2|⟨b,off,rfl,h4,h5⟩;·exact Or.inl h2
 ·exact Or.inr ⟨b,off,rfl,AL h4 ho.size,fun i x hi=>(World.cell?_of_block (w:=w) (a:=⟨b,off+i,none⟩) (ho.block b h4 (hf b rfl))).trans (h5 i x hi)⟩
def FarR (f:List Nat) (pv rv fv kv:Value):Prop:= ∀v∈[pv,rv,fv,kv],∀k,v.ownBlock=some k->k∉f
theorem q6g.only {f:List Nat} {w w':World} {pv rv fv kv:Value} {ps:List (Int×ByteArray)} {R F K:List Int} (h:q6g w pv rv fv kv ps R F K) (ho:Only f w w') (hf:FarR f pv rv fv kv):q6g w' pv rv fv kv ps R F K:=⟨h.pa.only ho (hf pv (by simp)),h.pc,h.ra.only ho (hf rv (by simp)),h.fa.only ho (hf fv (by simp)),h.ka.only ho (hf kv (by simp))⟩
theorem v0b {bs:List Int} {w w':World} {pv rv fv kv x y z:Value} (h:q3u bs w (.returned (.tuple #[.agg #[pv,rv,fv,kv,x,y],z])) w'):∀v∈[pv,rv,fv,kv],∀k,v.ownBlock=some k->w.heap.size<=k:=by
 intro v hv k hk;obtain⟨_,(⟨rs,ps,leaves,R,B,p1,r1,f1,k1,_,_,_,_,he,q1,q2,q3,q4⟩|⟨_,he⟩)⟩:=h
 ·have e1:pv=p1/\rv=r1/\fv=f1/\kv=k1:=by
   injection he with he;injection he with he;simp at he;exact⟨he.1.1,he.1.2.1,he.1.2.2.1,he.1.2.2.2.1⟩
  obtain⟨rfl,rfl,rfl,rfl⟩:=e1;simp only[List.mem_cons,List.not_mem_nil,or_false] at hv;rcases hv with rfl|rfl|rfl|rfl;·exact(q3c q1.own k hk).1
  ·exact(q1d q2 k hk).1
  ·exact(q1d q3 k hk).1
  ·exact(q1d q4 k hk).1
 ·have e1:pv= .slice none 0 0/\rv= .slice none 0 0/\fv= .slice none 0 0/\kv= .slice none 0 0:=by
   injection he with he;injection he with he;simp at he;exact⟨he.1.1,he.1.2.1,he.1.2.2.1,he.1.2.2.2.1⟩
  obtain⟨rfl,rfl,rfl,rfl⟩:=e1;simp only[List.mem_cons,List.not_mem_nil,or_false] at hv;rcases hv with rfl|rfl|rfl|rfl<;>cases hk
structure OpnD (w:World) (o m:Nat) (B:MB) (M:MemS) (bs:List Int) (tv wv:Value) (dn:Bool) (bad:Int) (h nn:Int) (ps:List (Int×ByteArray)) (R F K:List Int) (pv rv fv kv:Value):Prop where
 mem:q4f w m B M
 blk:Blk w o 212 (opnC m tv wv (q3g o) dn bad pv rv fv kv h nn)
 tv:∃a c,tv= .slice a 0 c
 rep:q6g w pv rv fv kv ps R F K
 far:FarR (o::q2g m B M) pv rv fv kv
 ap:o∉q2g m B M
 own:w.ownsRow 0 46 1 wv M.view.length (M.view.map (Value.int .u64))
 aw:∀b,wv.ownBlock=some b->b≠o/\b∉q2g m B M
theorem x3v (N:Nat) (o m:Nat) (B:MB) (M:MemS) (k c tg:Nat) (wv:Value) (w:World) (H:OpnL N w o m B M k 1 c tg wv) (bs:List Int) (hb:∀x∈bs,0<=x/\x<256) (ke:q0b bs=M.view) (h8:bs.length=8*(k+1)) (hk5:k+1<=100000) (km h nn:Int) (ps:List (Int×ByteArray)) (R F K:List Int)
  (kb:∀w w' e,q3u bs w e w'->Below w.heap.size w w'/\z3f h nn km ps R F K e w'):
  Calls Tryz.prog 110 #[.pointer (some ⟨o,0,none⟩)] w fun e w'=>e= .returned (.tuple #[.bool true,.int .i64 km])/\
   ∃tv wv' pv rv fv kv s,s.a=(M.st.a+1)% 18446744073709551616/\s.b=M.st.b/\s.c=M.st.c/\s.d=M.st.d/\OpnD w' o m B { M with st:=s } bs tv wv' false 0 h nn ps R F K pv rv fv kv/\Only (o::m::wv.ownBlock.toList) w w':=by
 have hk:k<M.view.length:=by have:=H.len;omega
 have h:=H;clear H;have LZ:=hid (x1y m B M k hk w.drew (h.mem.only ((Only.refl [] w).drew) (by simp)));have kq:=hid (x1y m B M k hk w (h.mem));have y0:w.cell? ⟨o,0,none⟩=some (ptrV m):=h.blk.cell 0;have y1:w.cell? ⟨o,1,none⟩=some (.slice (some ⟨tg,k,none⟩) 1 c):=h.blk.cell 1;have y2:w.cell? ⟨tg,k,none⟩=some (.int .u64 (8*(k:Int))):=h.todo k (by omega);have z0:w.drew.cell? ⟨o,0,none⟩=some (ptrV m):=y0;have z1:w.drew.cell? ⟨o,1,none⟩=some (.slice (some ⟨tg,k,none⟩) 1 c):=y1;have z2:w.drew.cell? ⟨tg,k,none⟩=some (.int .u64 (8*(k:Int))):=y2;have i0:(0:Int)< ((1:Nat):Int):=by omega
 have KF:Hid (∀W,Only [m] w.drew W->W.cell? ⟨o,0,none⟩=some (ptrV m)/\W.cell? ⟨o,1,none⟩=some (.slice (some ⟨tg,k,none⟩) 1 c)/\W.cell? ⟨tg,k,none⟩=some (.int .u64 (8*(k:Int)))):=by intro W hW;have hb:Blk W o 212 _:=hW.blk h.blk.drew (by simp only[List.mem_singleton];exact fun e=>h.ap.1 (by rw[e];simp[q2g]));refine⟨hb.cell 0,hb.cell 1,?_⟩;exact(World.cell?_of_block (w:=w.drew) (a:=⟨tg,k,none⟩) (hW.block tg h.tl (by simp only[List.mem_singleton];exact fun e=>h.ap.2.2 (by rw[e];simp[q2g])))).trans y2
 obtain⟨X,hX⟩:∃X,X=M.view[k]'hk:=⟨_,rfl⟩;rw[<- hX] at LZ kq;have HX:=hid hX;have H:=hid h;clear h hX;have kb:=hid kb;go_enter Tryz.func110,Tryz.ntmps110;go_upto_region 1 with fail
 go_region_held3 (fun W=>W.cell? ⟨o,0,none⟩=some (ptrV m)/\W.cell? ⟨o,1,none⟩=some (.slice (some ⟨tg,k,none⟩) 1 c)/\W.cell? ⟨tg,k,none⟩=some (.int .u64 (8*(k:Int)))) (go_keep)
  ((go_at_call 173;refine LZ.out.mono ?_;rintro e w1 ⟨rfl,s1,a1,a2,a3,a4,kh,k5⟩;obtain⟨x0,x1,x2⟩:=KF.out w1 k5;have kz:=hid kh;have hs:=hid k5;have hl:=hid (⟨a1,a2,a3,a4⟩:_/\_/\_/\_);clear kh k5 a1 a2 a3 a4))
 have hh:Blk w1 o 212 (opnC m (.slice (some ⟨tg,k,none⟩) 1 c) wv (q3g o) false 0 nilS nilS nilS nilS 0 0):=hs.out.blk H.out.blk.drew (by simp only[List.mem_singleton];exact fun e=>H.out.ap.1 (by rw[e];simp[q2g]));have U:w1.ownsRow N 46 1 wv k ((M.view.take k).map (Value.int .u64)):=hs.out.own (((Only.refl [] w).drew).own H.out.own (by simp)) (fun b hb hc=>(H.out.aw b hb).2.2 (by rw[AF.1 hc];simp[q2g]));have Y:(M.view.take k).length=k:=by have:=H.out.len;simp;omega
 have h9:N<=w1.heap.size:=AH H.out.lo.1 (Bv hh.lt);have k1:=H.out.mem.big;obtain⟨va,vc,w9,h5,I,ko,O⟩:=x2w (W:=w1.drew) (xs:=M.view.take k) (by rw[Y];exact((Only.refl [] w1).drew).own U (by simp)) h9 X (by have:=H.out.len;rw[Y];omega);rw[Y] at h5 I O;have h6:Only wv.ownBlock.toList w1 w9:=((Only.refl _ w1).drew).trans ko (fun x hx=>Or.inl hx);have hf:o∉wv.ownBlock.toList:=fun hc=>(H.out.aw o (by simpa using hc)).1 rfl;have S:=h6.blk hh hf;have ho:Blk w1.drew o 212 _:=hh.drew;have hy:Blk (w1.drew.alloc (.cells #[.int .u64 X] 46)) o 212 _:=ho.alloc _;have d1:w1.drew.cell? ⟨o,1,none⟩=some (.slice (some ⟨tg,k,none⟩) 1 c):=ho.cell 1;have d2:w1.drew.cell? ⟨o,2,none⟩=some wv:=ho.cell 2;have e1:(w1.drew.alloc (.cells #[.int .u64 X] 46)).cell? ⟨o,1,none⟩=some (.slice (some ⟨tg,k,none⟩) 1 c):=hy.cell 1;have e2:(w1.drew.alloc (.cells #[.int .u64 X] 46)).cell? ⟨o,2,none⟩=some wv:=hy.cell 2;have f1:(w1.alloc (.cells #[.int .u64 X] 46)).drew.cell? ⟨o,1,none⟩=some (.slice (some ⟨tg,k,none⟩) 1 c):=e1;have f2:(w1.alloc (.cells #[.int .u64 X] 46)).drew.cell? ⟨o,2,none⟩=some wv:=e2;have g1:w9.cell? ⟨o,1,none⟩=some (.slice (some ⟨tg,k,none⟩) 1 c):=S.cell 1;have g2:w9.cell? ⟨o,2,none⟩=some wv:=S.cell 2;have kr:=S.frozen 1;have ky:=S.frozen 2;have he:q0n Tryz.prog #[22,22] 22 #[wv,.slice (some ⟨w1.heap.size,0,none⟩) 1 1] ((w1.alloc (.cells #[.int .u64 X] 46)).drew)= .ok (.slice va (k+1) vc) w9:=h5;have i4:(1:Int)<=(c:Int):=by have:=H.out.cap;omega
 have HF:=hid (⟨S,I,h6,O,hf,h9,Y⟩:_/\_/\_/\_/\_/\_/\_);clear h5 hh U Y h9 k1 I ko O h6 hf S ho hy x0 x1 x2 y0 y1 y2 z0 z1 z2 i0;go_upto_region 4 with fail;go_region;generalize(if c=1 then some (Addr.mk tg k none) else some (Addr.mk tg (k+1) none))=ta;obtain⟨S,I,h6,O,hf,h9,Y⟩:=HF.out;obtain⟨V,hV⟩:∃V,V=(w9.setCell ⟨o,2,none⟩ (.slice va (k+1) vc)).setCell ⟨o,1,none⟩ (.slice ta 0 (c-1)):=⟨_,rfl⟩;have hi:Only [o] w9 V:=by rw[hV];exact((Only.refl _ _).setCell (Or.inl (by simp)) _).setCell (Or.inl (by simp)) _
 have hj:Blk V o 212 (opnC m (.slice ta 0 (c-1)) (.slice va (k+1) vc) (q3g o) false 0 nilS nilS nilS nilS 0 0):=by rw[hV];exact(S.set_ 2 _).set_ 1 _
 obtain⟨q1,q2,q3,q4,q5,q6⟩:=OpnL.past H.out kz.out hs.out HX.out I h6 O hi;rw[<- hV];have hm:M.view.length=k+1:=H.out.len;have ht:V.ownsRow N 46 1 (.slice va (k+1) vc) (k+1) ((q0b bs).map (Value.int .u64)):=by rw[ke];rw[AY (by omega)] at q4;exact q4
 have OI:=hid (v2w N (k+1) o m _ _ _ _ _ _ _ _ _ _ _ bs hb h8 (by omega) hk5 V hj ht);have v1:V.cell? ⟨o,1,none⟩=some (.slice ta 0 (c-1)):=hj.cell 1;have HV:=hid (⟨hj,q1,ht,q5,q6,hm⟩:_/\_/\_/\_/\_/\_);clear hV hi hj q1 q2 q3 q4 ht q5 q6 S I h6 O hf h9 Y d1 d2 e1 e2 f1 f2 g1 g2 kr ky he HF hm;go_wp2_with fail;refine OI.out.mono ?_;rintro e w2 ⟨gi,gc,rfl,kg,kt,kk⟩;obtain⟨bn,k0⟩:∃bn,bn=bs.length:=⟨_,rfl⟩;rw[<- k0];have LK:=hid (v8x (some ⟨gi,0,none⟩) bn gc bs k0 (by omega) kt w2 kg);have hr:=hid kk;clear kk kg k0 OI;go_wp2_with fail;refine LK.out.mono ?_;intro e w3 hp;have kp:=hp;obtain⟨k7,pa,pc,ra,rc,fa,fc,ka,kc,rfl,h7⟩:=kb.out _ _ _ hp;have z3:=hid (v0b kp);clear hp kp;have L:=(HV.out.1.bel hr.out).bel k7;have c6:w3.cell? ⟨o,6,none⟩=some (nilS):=L.cell 6;have f6:=L.frozen 6;have c7:w3.cell? ⟨o,7,none⟩=some (nilS):=L.cell 7;have f7:=L.frozen 7;have c8:w3.cell? ⟨o,8,none⟩=some (nilS):=L.cell 8;have f8:=L.frozen 8;have c9:w3.cell? ⟨o,9,none⟩=some (nilS):=L.cell 9;have f9:=L.frozen 9;have z5:w3.cell? ⟨o,10,none⟩=some (.int .i64 0):=L.cell 10;have z6:=L.frozen 10;have z8:w3.cell? ⟨o,11,none⟩=some (.int .i64 0):=L.cell 11;have z7:=L.frozen 11;have kj:=hid L;have ki:=hid h7;have k4:=hid (bx hr.out k7);obtain⟨pn,hz⟩:∃pn,pn=ps.length:=⟨_,rfl⟩;obtain⟨rn,k3⟩:∃rn,rn=R.length:=⟨_,rfl⟩;obtain⟨fn,k8⟩:∃fn,fn=F.length:=⟨_,rfl⟩;obtain⟨kn,k9⟩:∃kn,kn=K.length:=⟨_,rfl⟩;rw[<- hz,<- k3,<- k8,<- k9] at ki ⊢;have hq:=hid (⟨hz,k3,k8,k9⟩:_/\_/\_/\_);clear h7 k7 L hz k3 k8 k9 v1;unfold nilS at*;go_wp2_with fail;go_ret2;obtain⟨V3,kd⟩:∃V3,V3=(((((w3.setCell ⟨o,6,none⟩ (.slice pa pn pc)).setCell ⟨o,7,none⟩ (.slice ra rn rc)).setCell ⟨o,8,none⟩ (.slice fa fn fc)).setCell ⟨o,9,none⟩ (.slice ka kn kc)).setCell ⟨o,10,none⟩ (.int .i64 h)).setCell ⟨o,11,none⟩ (.int .i64 nn):=⟨_,rfl⟩;have kf:Only [o] w3 V3:=by rw[kd];exact(((((((Only.refl _ _).setCell (Or.inl (by simp)) _).setCell (Or.inl (by simp)) _).setCell (Or.inl (by simp)) _).setCell (Or.inl (by simp)) _).setCell (Or.inl (by simp)) _).setCell (Or.inl (by simp)) _)
 have z4:Blk V3 o 212 (opnC m (.slice ta 0 (c-1)) (.slice va (k+1) vc) (q3g o) false 0 (.slice pa pn pc) (.slice ra rn rc) (.slice fa fn fc) (.slice ka kn kc) h nn):=by rw[kd];exact(((((kj.out.set_ 6 _).set_ 7 _).set_ 8 _).set_ 9 _).set_ 10 _).set_ 11 _
 rw[<- kd];obtain⟨_,q1,q4,q5,q6,hm⟩:=HV.out;have hg:q2g m B { M with st:=s1 }=q2g m B M:=rfl;have hi:Only [] V w3:=Only.of_below k4.out [];have h4:Only [o] V V3:=(hi.mono (fun _ h=>by cases h)).trans kf (fun x hx=>Or.inl hx)
 have kx:∀x∈o::q2g m B M,x<V.heap.size:=fun x hx=>by
  rcases AN.1 hx with rfl|h;·have:=kj.out.lt;exact(AA.1 (show V.heap[x]?=some _ from HV.out.1)).1
  ·exact q1.foot_lt x (by rw[hg];exact h)
 have ha:FarR (o::q2g m B M) (.slice pa pn pc) (.slice ra rn rc) (.slice fa fn fc) (.slice ka kn kc):=by intro v hv x hx hc;have h1:=z3.out v (by rw[<- hq.out.1,<- hq.out.2.1,<- hq.out.2.2.1,<- hq.out.2.2.2];exact hv) x hx;have h2:=kx x hc;have h3:=hr.out.size;omega
 refine⟨rfl,_,_,_,_,_,_,s1,hl.out.1,hl.out.2.1,hl.out.2.2.1,hl.out.2.2.2,⟨?_,z4,⟨_,_,rfl⟩,ki.out.only kf ?_,by rw[hg];exact ha,by rw[hg];exact H.out.ap.1,?_,?_⟩,?_⟩;·exact q1.only h4 (fun x hx=>by rw[hg] at hx;simp only[List.mem_singleton];exact fun e=>H.out.ap.1 (e▸hx))
 ·exact fun v hv x hx hc=>ha v hv x hx (by rw[AF.1 hc];simp)
 ·have h1:=h4.own q4 (fun b hb hc=>(q5 b hb).1 (AF.1 hc));rw[ke] at h1;show V3.ownsRow 0 46 1 _ M.view.length _;rw[hm];exact q8j h1 (Af _)
 ·exact fun b hb=>⟨(q5 b hb).1,by rw[hg];exact(q5 b hb).2.2⟩
 ·exact q6.trans h4 (fun x hx=>Or.inl (by rw[AF.1 hx];simp))
end
section
theorem neFn (F t:Nat) (w:World):(binOp .neq 127 (.func (.func F) #[.pointer (some ⟨t,0,none⟩)] #[]) .nilFunc).run Tryz.prog w= .ok (.bool true) w:=by kernel_rfl
theorem y0g (F t:Nat) (x y:Operand) (w:World):(eqGuard .neq 127 x y (.func (.func F) #[.pointer (some ⟨t,0,none⟩)] #[]) .nilFunc).run Tryz.prog w= .ok () w:=by cases x<;>cases y<;>kernel_rfl
attribute [local go_sem] neFn y0g
theorem z1w (o m:Nat) (B:MB) (n:Nat) (s:St4) (hn:0<n) (hb:n<=131072) (tv wv:Value) (dn:Bool) (bad:Int) (pv rv fv kv:Value) (h nn:Int) (w:World) (hm:Blk w m 206 (memC B n s)) (ho:Blk w o 212 (opnC m tv wv (q3g o) dn bad pv rv fv kv h nn)):
  Calls Tryz.prog 170 #[.pointer (some ⟨o,0,none⟩)] w fun e w'=>e= .returned (.bool true)/\w'=w:=by
 have y0:w.cell? ⟨o,0,none⟩=some (ptrV m):=ho.cell 0;have y3:w.cell? ⟨o,3,none⟩=some (q3g o):=ho.cell 3;have i1:(0:Int)< (8*n:Nat):=by omega
 have SZ:=hid (v3u m B n s hn hb w hm);clear hm ho;unfold q3g at y3;go_enter Tryz.func170,Tryz.ntmps170;go_wp2_with fail;refine SZ.out.mono ?_;rintro e w1 ⟨rfl,rfl⟩;go_wp2;go_ret;exact⟨by simp;omega,rfl⟩
theorem z8z (o m:Nat) (B:MB) (n:Nat) (s:St4) (hn:0<n) (hb:n<=131072) (tv wv:Value) (pv rv fv kv:Value) (h nn:Int) (d:Bool) (L:Int) (R:World->Prop) (w:World) (hm:Blk w m 206 (memC B n s)) (ho:Blk w o 212 (opnC m tv wv (q3g o) false 0 pv rv fv kv h nn))
  (hR:∀w1,R w1-> ∃tv wv pv rv fv kv h nn,Blk w1 o 212 (opnC m tv wv (q3g o) false 0 pv rv fv kv h nn))
  (hc:Calls Tryz.prog 110 #[.pointer (some ⟨o,0,none⟩)] w fun e w'=>e= .returned (.tuple #[.bool d,.int .i64 L])/\R w'):
  Calls Tryz.prog 104 #[.pointer (some ⟨o,0,none⟩)] w fun e w'=>e= .returned (.tuple #[.bool d,.int .i64 L])/\ ∃w1,R w1/\Only [o] w1 w'/\
   ∀tv wv pv rv fv kv h nn,Blk w1 o 212 (opnC m tv wv (q3g o) false 0 pv rv fv kv h nn)->Blk w' o 212 (opnC m tv wv (q3g o) d L pv rv fv kv h nn):=by
 have TH:=hid (z1w o m B n s hn hb tv wv false 0 pv rv fv kv h nn w hm ho);have y3:w.cell? ⟨o,3,none⟩=some (q3g o):=ho.cell 3;have y4:w.cell? ⟨o,4,none⟩=some (.bool false):=ho.cell 4;have HC:=hid hc;have HR:=hid hR;clear hm ho hc hR;unfold q3g at y3;go_enter Tryz.func104,Tryz.ntmps104;go_wp2_with fail;refine TH.out.mono ?_;rintro e w1 ⟨rfl,rfl⟩;go_wp2_with fail;refine HC.out.mono ?_;rintro e w1 ⟨rfl,hr⟩;obtain⟨h5,h2,O,S,U,h3,h1,Y,I⟩:=HR.out _ hr;have x4:w1.cell? ⟨o,4,none⟩=some (.bool false):=I.cell 4;have h6:=I.frozen 4;have x5:w1.cell? ⟨o,5,none⟩=some (.int .i64 0):=I.cell 5;have h4:=I.frozen 5;have M:=hid hr;clear I y3 y4 hr;go_upto_region 5 with fail;go_region;go_wp2_with fail;go_ret2;exact⟨rfl,_,M.out,(((Only.refl _ _).setCell (Or.inl (by simp)) _).setCell (Or.inl (by simp)) _).drew,fun tv wv pv rv fv kv h nn hb=>((hb.set_ 4 _).set_ 5 _).drew⟩
theorem z3t (o m:Nat) (B:MB) (n:Nat) (s:St4) (hn:0<n) (hb:n<=131072) (tv wv:Value) (pv rv fv kv:Value) (h nn I:Int) (w:World) (hm:Blk w m 206 (memC B n s)) (ho:Blk w o 212 (opnC m tv wv (q3g o) true I pv rv fv kv h nn)):
  Calls Tryz.prog 104 #[.pointer (some ⟨o,0,none⟩)] w fun e w'=>e= .returned (.tuple #[.bool true,.int .i64 I])/\Below w.heap.size w w':=by
 have TH:=hid (z1w o m B n s hn hb tv wv true I pv rv fv kv h nn w hm ho);have y4:w.cell? ⟨o,4,none⟩=some (.bool true):=ho.cell 4;have y5:w.cell? ⟨o,5,none⟩=some (.int .i64 I):=ho.cell 5;clear hm ho;go_enter Tryz.func104,Tryz.ntmps104;go_wp2_with fail;refine TH.out.mono ?_;rintro e w1 ⟨rfl,rfl⟩;go_upto_region 5 with fail;go_region;go_wp2_with fail;go_ret2;exact⟨rfl,(Below.refl _ _).drew⟩
theorem x8i (o m:Nat) (B:MB) (n:Nat) (s:St4) (hn:0<n) (hb:n<=131072) (tv wv:Value) (dn:Bool) (pv rv fv kv:Value) (h nn I:Int) (w:World) (hm:Blk w m 206 (memC B n s)) (ho:Blk w o 212 (opnC m tv wv (q3g o) dn I pv rv fv kv h nn)):
  Calls Tryz.prog 111 #[.pointer (some ⟨o,0,none⟩)] w fun e w'=>e= .returned (.int .i64 (if dn=true then I else 7))/\w'=w:=by
 have TH:=hid (z1w o m B n s hn hb tv wv dn I pv rv fv kv h nn w hm ho);have y4:w.cell? ⟨o,4,none⟩=some (.bool dn):=ho.cell 4;have y5:w.cell? ⟨o,5,none⟩=some (.int .i64 I):=ho.cell 5;clear hm ho;cases dn
 all_goals
  go_enter Tryz.func111,Tryz.ntmps111;go_wp2_with fail;refine TH.out.mono ?_;rintro e w1 ⟨rfl,rfl⟩;go_wp2_with fail;go_ret;exact⟨rfl,rfl⟩
end
theorem OpnL.bel {N:Nat} {w w':World} {o m:Nat} {B:MB} {M:MemS} {k r c tg:Nat} {wv:Value} (H:OpnL N w o m B M k r c tg wv) (hb:Below w.heap.size w w'):OpnL N w' o m B M k r c tg wv:=
 have ho:Only [] w w':=Only.of_below hb []
 ⟨H.mem.only ho (by simp),H.len,H.blk.bel hb,H.cap,fun i hi=>(World.cell?_of_block (w:=w) (a:=⟨tg,i,none⟩) (ho.block tg H.tl (by simp))).trans (H.todo i hi),AL H.tl hb.size,ho.own H.own (by simp),H.ap,H.aw,H.lo⟩
theorem OpnL.turned {N:Nat} {w w':World} {o m:Nat} {B:MB} {M:MemS} {k r c tg:Nat} {wv:Value} (H:OpnL N w o m B M k r c tg wv) (ho:Only [o] w w') (hb:Blk w' o 212 (opnC m (.slice (some ⟨tg,k,none⟩) r c) wv (q3g o) false 0 nilS nilS nilS nilS 0 0)):OpnL N w' o m B M k r c tg wv:=
 ⟨H.mem.only ho (fun x hx=>by simp only[List.mem_singleton];exact fun e=>H.ap.1 (e▸hx)),H.len,hb,H.cap,fun i hi=>(World.cell?_of_block (w:=w) (a:=⟨tg,i,none⟩) (ho.block tg H.tl (by simpa using H.ap.2.1))).trans (H.todo i hi),AL H.tl ho.size,
  ho.own H.own (fun b hb hc=>(H.aw b hb).1 (AF.1 hc)),H.ap,H.aw,H.lo⟩
theorem OpnD.bel {w w':World} {o m:Nat} {B:MB} {M:MemS} {bs:List Int} {tv wv:Value} {dn:Bool} {bad h nn:Int} {ps:List (Int×ByteArray)} {R F K:List Int} {pv rv fv kv:Value} (H:OpnD w o m B M bs tv wv dn bad h nn ps R F K pv rv fv kv) (hb:Below w.heap.size w w'):OpnD w' o m B M bs tv wv dn bad h nn ps R F K pv rv fv kv:=
 have ho:Only [] w w':=Only.of_below hb []
 ⟨H.mem.only ho (by simp),H.blk.bel hb,H.tv,H.rep.bel hb,H.far,H.ap,ho.own H.own (by simp),H.aw⟩
theorem OpnD.turned {w w':World} {o m:Nat} {B:MB} {M:MemS} {bs:List Int} {tv wv:Value} {dn L:Bool} {bad I h nn:Int} {ps:List (Int×ByteArray)} {R F K:List Int} {pv rv fv kv:Value} (H:OpnD w o m B M bs tv wv dn bad h nn ps R F K pv rv fv kv) (ho:Only [o] w w') (hb:Blk w' o 212 (opnC m tv wv (q3g o) L I pv rv fv kv h nn)):OpnD w' o m B M bs tv wv L I h nn ps R F K pv rv fv kv:=⟨H.mem.only ho (fun x hx=>by simp only[List.mem_singleton];exact fun e=>H.ap (e▸hx)),hb,H.tv,H.rep.only ho (fun v hv k hk hc=>H.far v hv k hk (by rw[AF.1 hc];simp)),H.far,H.ap,ho.own H.own (fun b hb hc=>(H.aw b hb).1 (AF.1 hc)),H.aw⟩
theorem x2a (N:Nat) (o m:Nat) (B:MB) (M:MemS) (k r c tg:Nat) (wv:Value) (hr:2<=r) (w:World) (H:OpnL N w o m B M k r c tg wv):
  Calls Tryz.prog 104 #[.pointer (some ⟨o,0,none⟩)] w fun e w'=>e= .returned (.tuple #[.bool false,.int .i64 0])/\
   ∃I s,s.a=(M.st.a+1)% 18446744073709551616/\s.b=M.st.b/\s.c=M.st.c/\s.d=M.st.d/\OpnL N w' o m B { M with st:=s } (k+1) (r-1) (c-1) tg I/\Only (o::m::wv.ownBlock.toList) w w':=by
 refine(z8z o m B M.view.length M.st H.mem.pos H.mem.big _ _ _ _ _ _ _ _ false 0 _ w H.mem.blk H.blk ?_ (x3g N o m B M k r c tg wv hr w H)).mono ?_;·rintro w1 ⟨I,s,_,_,_,_,h1,_⟩;exact⟨_,_,_,_,_,_,_,_,h1.blk⟩
 ·rintro e w' ⟨rfl,w1,⟨I,s,a1,a2,a3,a4,h1,h2⟩,ho,hb⟩;exact⟨rfl,I,s,a1,a2,a3,a4,h1.turned ho (hb _ _ _ _ _ _ _ _ h1.blk),h2.trans ho (fun x hx=>Or.inl (by rw[AF.1 hx];simp))⟩
theorem x4m (N:Nat) (o m:Nat) (B:MB) (M:MemS) (k c tg:Nat) (wv:Value) (w:World) (H:OpnL N w o m B M k 1 c tg wv) (bs:List Int) (hb:∀x∈bs,0<=x/\x<256) (O:q0b bs=M.view) (h8:bs.length=8*(k+1)) (hk5:k+1<=100000) (I h nn:Int) (ps:List (Int×ByteArray)) (R F K:List Int)
  (S:∀w w' e,q3u bs w e w'->Below w.heap.size w w'/\z3f h nn I ps R F K e w'):
  Calls Tryz.prog 104 #[.pointer (some ⟨o,0,none⟩)] w fun e w'=>e= .returned (.tuple #[.bool true,.int .i64 I])/\
   ∃tv L pv rv fv kv s,s.a=(M.st.a+1)% 18446744073709551616/\s.b=M.st.b/\s.c=M.st.c/\s.d=M.st.d/\OpnD w' o m B { M with st:=s } bs tv L true I h nn ps R F K pv rv fv kv/\Only (o::m::wv.ownBlock.toList) w w':=by
 refine(z8z o m B M.view.length M.st H.mem.pos H.mem.big _ _ _ _ _ _ _ _ true I _ w H.mem.blk H.blk ?_ (x3v N o m B M k c tg wv w H bs hb O h8 hk5 I h nn ps R F K S)).mono ?_;·rintro w1 ⟨tv,L,pv,rv,fv,kv,s,_,_,_,_,h1,_⟩;exact⟨_,_,_,_,_,_,_,_,h1.blk⟩
 ·rintro e w' ⟨rfl,w1,⟨tv,L,pv,rv,fv,kv,s,a1,a2,a3,a4,h1,h2⟩,ho,hb⟩;exact⟨rfl,tv,L,pv,rv,fv,kv,s,a1,a2,a3,a4,h1.turned ho (hb _ _ _ _ _ _ _ _ h1.blk),h2.trans ho (fun x hx=>Or.inl (by rw[AF.1 hx];simp))⟩
def memK (ws:List Int) (k:Nat):MemS:={ q3y ws with st:=⟨(k:Int),0,0,0⟩ }
theorem z7g {ws:List Int} {k:Nat} {s:St4} (hk:k<=1000000) (a1:s.a=((memK ws k).st.a+1)% 18446744073709551616) (a2:s.b=(memK ws k).st.b) (a3:s.c=(memK ws k).st.c) (a4:s.d=(memK ws k).st.d):({ memK ws k with st:=s }:MemS)=memK ws (k+1):=by
 obtain⟨a,b,c,d⟩:=s;have e1:a=(k:Int)+1:=by have:a=((k:Int)+1)% 18446744073709551616:=a1;omega
 have e2:b=0:=a2;have e3:c=0:=a3;have e4:d=0:=a4;subst e1 e2 e3 e4;rfl
theorem z6g (m:Nat) (B:MB) (ws:List Int) (k:Nat) (w:World) (h:q4f w m B (memK ws k)):
  Calls Tryz.prog 61 #[ptrV m] w fun e w'=>e= .returned (.agg #[.int .u64 (k:Int),.int .u64 0,.int .u64 0,.int .u64 0])/\Below w.heap.size w w':=v4t m B _ _ h.pos w h.blk
theorem x2u (N:Nat) (o m:Nat) (B:MB) (q c tg L:Nat) (bs:List Int) (hb:∀x∈bs,0<=x/\x<256) (h8:bs.length=8*q) (hp:0<q) (hq:q<=100000) (hy:q<=L) (h3:L<=1000000) (hm h nn:Int) (ps:List (Int×ByteArray)) (R F K:List Int)
  (hs:∀w w' e,q3u bs w e w'->Below w.heap.size w w'/\z3f h nn hm ps R F K e w') (w:World) (H:OpnL N w o m B (memK (q0b bs) 0) 0 q c tg nilS):
  Calls Tryz.prog 31 #[ptrV m,.pointer (some ⟨o,0,none⟩),.int .i64 (L:Int)] w fun e w'=>e= .returned (.int .i64 (q:Int))/\Below N w w'/\
   ∃tv h9 pv rv fv kv,OpnD w' o m B (memK (q0b bs) q) bs tv h9 true hm h nn ps R F K pv rv fv kv:=by
 have HB:=hid hb;have H8:=hid h8;have Y:=hid (⟨hy,h3,hq,hp⟩:_/\_/\_/\_);have k0:=hid hs;have ht:Hid (∃wv,OpnL N w o m B (memK (q0b bs) 0) 0 (q-0) (c-0) tg wv/\Below N w w):=hid ⟨_,H,Below.refl _ _⟩;clear hb h8 hy h3 hq hp hs H;go_enter Tryz.func31,Tryz.ntmps31;go_wp2_with fail;go_loopw [7,8,9,10,11] (fun iv s8 s9 k4 k3 wr=> ∃k:Nat,k<q/\iv= .int .i64 ((k:Int)+1)/\Hid (∃wv,OpnL N wr o m B (memK (q0b bs) k) k (q-k) (c-k) tg wv/\Below N w wr)) (fun iv _ _ _ _ _=>(q+1- (intOf iv).toNat));case atStart=>exact⟨0,Y.out.2.2.2,rfl,ht⟩
 case round=>
  obtain⟨k,hk,rfl,hI⟩:=hrel;obtain⟨wA,rfl⟩:∃x,x=wr:=⟨_,rfl⟩;obtain⟨wv,hL,hbl⟩:=hI.out;have i1:(k:Int)+1<=(L:Int):=by have:=Y.out;omega
  have ST:=hid (z6g m B _ k wA hL.mem);have HL:=hid hL;have ho:=hid hbl;have HK:=hid hk;clear hL hbl hI hk ht;go_wp2_with fail;refine ST.out.mono ?_;rintro e w2 ⟨rfl,hl⟩;have U:=hid (HL.out.bel hl);have hj:=hid (ho.out.trans (hl.mono (AH HL.out.lo.1 (Bv HL.out.blk.lt))));clear hl ST;go_wp2_with fail;obtain⟨b8,hh⟩:∃b8,b8=w2.heap.size:=⟨_,rfl⟩;obtain⟨W3,h4⟩:∃W3,W3=w2.alloc (.cells #[.int .u64 (k:Int),.int .u64 0,.int .u64 0,.int .u64 0] 129):=⟨_,rfl⟩;rw[<- h4];rw[<- hh];have hf:Below w2.heap.size w2 W3:=by rw[h4];exact ba (Below.refl _ _) _
  have hi:Blk W3 b8 129 #[.int .u64 (k:Int),.int .u64 0,.int .u64 0,.int .u64 0]:=by rw[h4,hh];exact Blk.new _ _ _
  have S:=U.out.bel hf;have M:Below N w W3:=hj.out.trans (hf.mono (AH U.out.lo.1 (Bv U.out.blk.lt)))
  have hg:b8∉o::m::wv.ownBlock.toList:=fun hx=>by
   have h2:=U.out;simp only[List.mem_cons] at hx;rcases hx with e|e|e;·have:=h2.blk.lt;omega
   ·have:=h2.mem.blk.lt;omega
   ·obtain⟨_,ob,h5,_⟩:=q3c h2.own b8 (by simpa using e);have:=(AA.1 h5).1;omega
  by_cases hlast:k+1<q
  ·have SM:=hid (x2a N o m B _ k (q-k) (c-k) tg wv (by omega) W3 S);have HX:=hid (⟨hi,hg,M,S,hlast⟩:_/\_/\_/\_/\_);clear hi hg M S hf h4 hh hlast hj U HL ho;refine SM.out.mono ?_;rintro e w4 ⟨rfl,h9,s,a1,a2,a3,a4,he,O⟩;rw[z7g (by have:=Y.out;have:=HK.out;omega) a1 a2 a3 a4] at he;have ST:=hid (z6g m B _ (k+1) w4 he.mem);have H4:=hid (⟨he,O.blk HX.out.1 HX.out.2.1,HX.out.2.2.1.trans (HX.out.2.2.2.1.blw O)⟩:_/\_/\_);clear he O a1 a2 a3 a4 SM;go_wp2_with fail;refine ST.out.mono ?_;rintro e w5 ⟨rfl,I⟩;have d8:=(H4.out.2.1.bel I);have e0:w5.cell? ⟨b8,0,none⟩=some (.int .u64 (k:Int)):=d8.cell 0;have e1:w5.cell? ⟨b8,1,none⟩=some (.int .u64 0):=d8.cell 1;have e2:w5.cell? ⟨b8,2,none⟩=some (.int .u64 0):=d8.cell 2;have e3:w5.cell? ⟨b8,3,none⟩=some (.int .u64 0):=d8.cell 3;have k1:b8<w5.heap.size:=d8.lt;have hr:=H4.out.1.bel I;have H5:=hid (⟨hr,H4.out.2.2.trans (I.mono (AH H4.out.1.lo.1 (Bv H4.out.1.blk.lt)))⟩:_/\_);have d1:IntKind.u64.wrap (((k+1:Nat):Int)- (k:Int))=1:=by rw[show((k+1:Nat):Int)- (k:Int)=1 by omega];rfl
   clear I d8 hr H4 ST;have HN:Hid (∃wv,OpnL N (w5.alloc (.cells #[.int .u64 ((k:Int)+1),.int .u64 0,.int .u64 0,.int .u64 0] 129)) o m B (memK (q0b bs) (k+1)) (k+1) (q- (k+1)) (c- (k+1)) tg wv/\Below N w (w5.alloc (.cells #[.int .u64 ((k:Int)+1),.int .u64 0,.int .u64 0,.int .u64 0] 129))):=by obtain⟨h5,h6⟩:=H5.out;have hba:Below w5.heap.size w5 (w5.alloc (.cells #[.int .u64 ((k:Int)+1),.int .u64 0,.int .u64 0,.int .u64 0] 129)):=ba (Below.refl _ _) _;rw[Nat.sub_sub,Nat.sub_sub] at h5;exact hid ⟨_,h5.bel hba,h6.trans (hba.mono (AH h5.lo.1 (Bv h5.blk.lt)))⟩
   have ik:(k:Int)<=100000:=by have:=Y.out;have:=HK.out;omega
   have i0:(0:Int)<=(k:Int):=by omega
   go_wp2_with fail;go_roundw;case rel=>exact⟨k+1,HX.out.2.2.2.2,by go_num,HN⟩
   case measure=>simp[intOf];have:=HX.out.2.2.2.2;omega
  ·have hz:q-k=1:=by have:=HK.out;omega
   have h1:q=k+1:=by omega
   rw[hz] at S;have SL:=hid (x4m N o m B _ k (c-k) tg wv W3 S bs HB.out rfl (by rw[H8.out,h1]) (by have:=Y.out;omega) hm h nn ps R F K k0.out);have HX:=hid (⟨hi,hg,M,S,h1⟩:_/\_/\_/\_/\_);clear hi hg M S hf h4 hh hlast hj U HL ho hz h1;refine SL.out.mono ?_;rintro e w4 ⟨rfl,tv,h9,pv,rv,fv,kv,s,a1,a2,a3,a4,ha,O⟩;rw[z7g (by have:=Y.out;have:=HK.out;omega) a1 a2 a3 a4] at ha;have ST:=hid (z6g m B _ (k+1) w4 ha.mem);have H4:=hid (⟨ha,O.blk HX.out.1 HX.out.2.1,HX.out.2.2.1.trans (HX.out.2.2.2.1.blw O)⟩:_/\_/\_);have h7:N<=w4.heap.size:=AH (AH HX.out.2.2.2.1.lo.1 (Bv HX.out.2.2.2.1.blk.lt)) O.size;clear ha O a1 a2 a3 a4 SL;go_wp2_with fail;refine ST.out.mono ?_;rintro e w5 ⟨rfl,I⟩;have d8:=(H4.out.2.1.bel I);have e0:w5.cell? ⟨b8,0,none⟩=some (.int .u64 (k:Int)):=d8.cell 0;have e1:w5.cell? ⟨b8,1,none⟩=some (.int .u64 0):=d8.cell 1;have e2:w5.cell? ⟨b8,2,none⟩=some (.int .u64 0):=d8.cell 2;have e3:w5.cell? ⟨b8,3,none⟩=some (.int .u64 0):=d8.cell 3;have k1:b8<w5.heap.size:=d8.lt;have hba:Below w5.heap.size w5 (w5.alloc (.cells #[.int .u64 ((k:Int)+1),.int .u64 0,.int .u64 0,.int .u64 0] 129)):=ba (Below.refl _ _) _;have H5:=hid (⟨H4.out.1.bel (bx I hba),H4.out.2.2.trans ((bx I hba).mono h7)⟩:_/\_);have d1:IntKind.u64.wrap (((k+1:Nat):Int)- (k:Int))=1:=by rw[show((k+1:Nat):Int)- (k:Int)=1 by omega];rfl
   clear I d8 H4 ST hba h7;go_wp2_with fail;go_ret;obtain⟨h5,h6⟩:=H5.out;have h1:=HX.out.2.2.2.2;subst h1;exact⟨by simp,h6,tv,h9,pv,rv,fv,kv,h5⟩
end Go.Proofs.YtibiekfjbibpbaaGreat
