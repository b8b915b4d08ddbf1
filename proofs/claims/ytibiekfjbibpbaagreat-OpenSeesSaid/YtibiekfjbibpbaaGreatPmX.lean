import Derived.Deep.AppendLies
import Derived.Test.YtibiekfjbibpbaaGreatPmU
import Derived.Deep.Cut
import Derived.Test.YtibiekfjbibpbaaGreatCloneW
import Derived.Deep.OwnRows
set_option maxRecDepth 100000
set_option maxHeartbeats 16000000
set_option linter.unusedVariables false
set_option linter.unusedSimpArgs false
namespace Go.Proofs.YtibiekfjbibpbaaGreat
section
open Go.RowKit Go.Shelf
attribute [local go_sem] Oper.semAt_some
attribute [local go_sem ↓ high] q5q
attribute [local go_sem] x2p
theorem v7x {a c:Int} {k:Nat} (ha:0<=a) (I:a<2^ (8*k)) (hc:0<=c) (S:c<256) (hk:k<8):bits BinOp.or IntKind.u64 a (IntKind.u64.wrap (c*2^ (8*k)))=a+c*2^ (8*k):=by
 obtain⟨a,rfl⟩:=Bk ha;obtain⟨c,rfl⟩:=Bk hc;have hp:((c:Int)*2^ (8*k))=((c*2^ (8*k):Nat):Int):=by simp
 have L:a<2^ (8*k):=by exact_mod_cast I
 have M:c<256:=by omega
 have O:2^ (8*k)<=2^56:=As (by omega) (by omega);have hm:c*2^ (8*k)<=255*2^ (8*k):=Bp _ (by omega);have hb:c*2^ (8*k)<18446744073709551616:=by omega
 rw[hp,IntWalk.u64_in _ (by omega),bits_or_u64_nat a _ (by omega) hb];rw[Nat.or_comm,<- DR,<- Cw L]
 push_cast
 omega
theorem v6r (n:Nat) (w:World) (hn:(n:Int)<9223372036854775808):Calls Tryz.prog 105 #[.int .i64 (n:Int)] w fun e w'=>e= .returned (.bool (mayB n))/\w=w':=by
 by_cases h1:(n:Int)≥64
 ·by_cases h2:(n:Int)<=1048576;·have HZ:=hid (show mayB n=((n:Int)% 64==0) by unfold mayB;rw[Bool.eq_iff_iff];simp;omega);go_enter Tryz.func105,Tryz.ntmps105;go_wp2;go_ret;exact⟨by rw[HZ.out];rfl,rfl⟩
  ·have HZ:=hid (show mayB n=false by unfold mayB;simp;omega);go_enter Tryz.func105,Tryz.ntmps105;go_wp2;go_ret;exact⟨by rw[HZ.out];rfl,rfl⟩
 ·have HZ:=hid (show mayB n=false by unfold mayB;simp;omega);go_enter Tryz.func105,Tryz.ntmps105;go_wp2;go_ret;exact⟨by rw[HZ.out];rfl,rfl⟩
theorem v6e {w:World} {base:Nat} {e:TypeId} {size:Nat} {v:Value} {n:Nat} {xs:List Value} (h:w.ownsRow base e size v n xs):w.ownsRow 0 e size v n xs:=by
 refine⟨h.1,?_⟩;rcases h.2 with h|⟨g,cap,I,h1,h2,h3⟩;·exact Or.inl h
 ·exact Or.inr ⟨g,cap,I,h1,Af _,h3⟩
theorem z3y {W W':World} {row:Option Nat} {g:Nat} {t:TypeId} {cs:Array Value} (h:Blk W g t cs) (hg:W.grownBy W' row) (hr:∀r,row=some r-> ∃o:Obj,W.heap[r]?=some o/\o.isCells=false):Blk W' g t cs:=by refine h.grown hg fun e=> ?_;obtain⟨o,ho,hc⟩:=hr g e.symm;rw[h] at ho;cases ho;cases hc
theorem z8d {W W':World} {row:Option Nat} {base:Nat} {e:TypeId} {size n:Nat} {v:Value} {xs:List Value} (h:W.ownsRow base e size v n xs) (hg:W.grownBy W' row) (hr:∀r,row=some r-> ∃o:Obj,W.heap[r]?=some o/\o.isCells=false):W'.ownsRow base e size v n xs:=by
 refine⟨h.1,?_⟩;rcases h.2 with h1|⟨g,cap,L,hv,I,hh,rest⟩;·exact Or.inl h1
 ·exact Or.inr ⟨g,cap,L,hv,I,z3y hh hg hr,rest⟩
def q3y (ws:List Int):MemS:={ view:=ws,image:=ws,lines:=[],clock:=0,st:=⟨0,0,0,0⟩ }
structure OfI (w:World) (m lb N0:Nat) (bs:List Int) (w5:World) (xs:List Nat) (v:Value) (W:World):Prop where
 blk:Blk W m 206 #[.slice none 0 0,v,.map (some lb),.int .u64 0,.int .u64 0,.int .u64 0,.int .u64 0]
 own:W.ownsRow N0 46 1 v xs.length (xs.map fun x=> .int .u64 (wAt bs x))
 bel:Below w.heap.size w W
 keep:q0u [m] N0 w5 W
theorem OfI.own_from {w:World} {m lb N0 B:Nat} {bs:List Int} {w5:World} (q:Nat) (h1:w.heap.size<=B) (h2:N0<=B) (h3:N0<=w5.heap.size):OwnFrom B (fun(xs:List (Fin q)) W=> ∃v,OfI w m lb N0 bs w5 (xs.map (·.val)) v W):=by
 rintro xs W W' row ⟨v,h⟩ hg hr;have I:∀r,row=some r-> ∃o:Obj,W.heap[r]?=some o/\o.isCells=false:=fun r e=>(hr r e).2
 exact⟨v,z3y h.blk hg I,z8d h.own hg I,⟨hg.os.trans h.bel.os,hg.tape.trans h.bel.tape,hg.output.trans h.bel.output,AH h.bel.size hg.size,fun k hk=>(hg.block k (AL hk h.bel.size) (fun e=>by have:=(hr k e.symm).1;omega)).trans (h.bel.block k hk)⟩,
  ⟨AH h.keep.size hg.size,fun k hk hn=>by
   by_cases hkw:k<W.heap.size;·exact(hg.block k hkw (fun e=>by have:=(hr k e.symm).1;omega)).trans (h.keep.block k hk hn)
   ·exact absurd (AL hk (AH h3 h.keep.size)) hkw⟩⟩
theorem q7x {W:World} {base n:Nat} {v:Value} {ws:List Int} (h:W.ownsRow base 46 1 v n (ws.map fun x=>Value.int .u64 x)) (hn:0<n):∃g cap,v= .slice (some ⟨g,0,none⟩) n cap/\base<=g/\g<W.heap.size/\q7k W g ws:=by
 rcases h.2 with⟨_,h1⟩|⟨g,cap,I,h1,h2,h3,h4,h5,h6,h7⟩;·omega
 ·refine⟨g,cap,h1,h2,(AA.1 h3).1,I,h3,fun i x hx=> ?_⟩;have hl:=h.1;have hi:i<n*1:=by have:=(AE.1 hx).1;simp at hl;omega
  have h8:(I.toList.take (n*1))[i]?=some (.int .u64 x):=by rw[h7,AM,hx];rfl
  rw[AV,if_pos hi] at h8;simpa using h8
theorem x0g {bs:List Int} {q:Nat} (h:bs.length=8*q):(((List.finRange q).map (·.val)).map fun x=>Value.int .u64 (wAt bs x))=(q0b bs).map fun x=>Value.int .u64 x:=by
 unfold q0b;rw[show bs.length/8=q by omega,BU,BU];apply Bf;intro i;by_cases hi:i<q;·simp[hi]
 ·simp[hi]
theorem x5q {w W w5 v1 V:World} {m lb N0 q D:Nat} {bs:List Int} {v:Value} {va:Option Addr} {vc:Nat} {o:Obj} (hq:bs.length=8*q) (S:0<q) (ha:q<=131072) (hI:OfI w m lb N0 bs w5 ((List.finRange q).map (·.val)) v W) (hm:w.heap.size<=m) (hj:m<N0) (hs:w.heap.size<=lb) (Y:lb<N0) (U:lb≠m) (hl:w.heap.size<=N0)
  (O:w5.heap[lb]?=some (.map #[] 0)) (k1:N0<=w5.heap.size) (hb:Below W.heap.size W v1) (hr:v1.ownsRow W.heap.size 46 1 (.slice va q vc) q (((List.finRange q).map (·.val)).map fun x=> .int .u64 (wAt bs x)))
  (hD:N0<=D) (hk:W.heap[D]?=some o) (ho:o.isCells=false) (hV:V=v1.setCell ⟨m,0,none⟩ (.slice va q vc)) (o':Obj):
  (∃B,q4f (V.putObj D o') m B (q3y (q0b bs))/\ ∀k∈q2g m B (q3y (q0b bs)),w.heap.size<=k)/\Below w.heap.size w (V.putObj D o')/\V.heap[D]?=some o:=by
 have h6:(q0b bs).length=q:=by simp[q0b];omega
 have I:=hI.own;rw[x0g hq] at hr I;have he:((List.finRange q).map (·.val)).length=q:=by simp
 rw[he] at I;obtain⟨ib,ic,rfl,hy,hi,h8⟩:=q7x I S;obtain⟨vb,ht,hv,hp,hf,hg⟩:=q7x hr S;injection hv with h1 h2 h3;subst h1 h3;have h9:D<W.heap.size:=(AA.1 hk).1;have hz:m<W.heap.size:=hI.blk.lt;have h7:D≠m:=by omega
 have hh:D≠ib:=fun e=>by obtain⟨k0,h4,_⟩:=h8;subst e;rw[h4] at hk;cases hk;cases ho
 have ov:Only [m] v1 V:=by rw[hV];exact(Only.refl _ _).setCell (Or.inl (by simp)) _
 have oD:Only [m,D] v1 (V.putObj D o'):=Only.putObj (ov.mono (fun x hx=>by simp at hx;simp[hx])) (Or.inl (by simp)) o';have oW:Only [m,D] W (V.putObj D o'):=(Only.of_below hb []).mono (g:=[m,D]) (fun x hx=>by cases hx) |>.trans oD (fun x hx=>Or.inl hx)
 refine⟨⟨⟨vb,vc,ib,ic,lb⟩,?_,fun k hk=>by simp only[q2g,q3y,List.map_nil,List.mem_cons,List.not_mem_nil,or_false] at hk;have:=hI.keep.size;rcases hk with rfl|rfl|rfl|rfl<;>omega⟩,?_,?_⟩
 ·have h5:Blk (V.putObj D o') m 206 (memC ⟨vb,vc,ib,ic,lb⟩ q ⟨0,0,0,0⟩):=by
   have h4:Blk V m 206 (memC ⟨vb,vc,ib,ic,lb⟩ q ⟨0,0,0,0⟩):=by rw[hV];exact(hI.blk.bel hb).set_ 0 _
   exact h4.putObj (Ne.symm h7) o'
  have M:W.heap[lb]?=some (.map #[] 0):=(hI.keep.block lb Y (by simpa using U)).trans O
  exact{
   blk:=by simp only[q3y,h6];exact h5
   pos:=by simp only[q3y,h6];exact S
   big:=by simp only[q3y,h6];exact ha
   len:=rfl
   view:=by
    refine hg.only oD ?_;simp;constructor;·omega
    ·omega
   image:=by
    refine h8.only oW ?_;simp;constructor;·omega
    ·exact fun e=>hh e.symm
   map:=(oW.block lb (AA.1 M).1 (by simp;constructor;exact U;omega)).trans M
   rows:=fun L hL=>by cases hL
   ok:=fun L hL=>by cases hL
   keys:=List.Pairwise.nil
   born:=List.Pairwise.nil
   old:=fun L hL=>by cases hL
   apart:=by simp only[q2g,q3y,List.map_nil,List.nodup_cons,List.mem_cons,not_or,List.not_mem_nil,not_false_eq_true,and_true,List.nodup_nil];refine⟨⟨?_,?_,?_⟩,⟨?_,?_⟩,?_⟩<;>first|omega|exact fun e=>U e.symm }
 ·refine⟨oW.os.trans hI.bel.os,oW.tape.trans hI.bel.tape,oW.output.trans hI.bel.output,AH hI.bel.size oW.size,fun k hk=> ?_⟩;refine(oW.block k (AL hk hI.bel.size) (by simp;omega)).trans (hI.bel.block k hk)
 ·rw[ov.block D (AL h9 hb.size) (by simpa using h7),hb.block D h9,hk]
def x0v (Q:Exit->Act->World->Prop):Exit->Act->World->Prop
 | .panic _,_,_=>False
 | e,a,w=>Q e a w
theorem x0v.imp {Q:Exit->Act->World->Prop}:∀(e:Exit) (a:Act) (w:World),x0v Q e a w->Q e a w:=fun e a w h=>by cases e<;>first|exact h|exact(h:False).elim
theorem x0v.normal {Q:Exit->Act->World->Prop} {a:Act} {w:World} (h:Q .normal a w):x0v Q .normal a w:=h
theorem q3c {w:World} {base:Nat} {e:TypeId} {size n:Nat} {v:Value} {xs:List Value} (h:w.ownsRow base e size v n xs):∀k,v.ownBlock=some k->base<=k/\ ∃o:Obj,w.heap[k]?=some o/\o.isCells=true:=by
 intro k hk;rcases h.2 with⟨h1,_⟩|⟨g,cap,I,h1,h2,h3,_⟩;·rw[h1] at hk;cases hk
 ·rw[h1] at hk;have:g=k:=by simpa[Value.ownBlock] using hk
  subst this;exact⟨h2,_,h3,rfl⟩
theorem OfI.step {w W w9 w5:World} {m lb N0:Nat} {bs:List Int} {xs:List Nat} {v:Value} {x:Nat} {va:Option Addr} {vc:Nat} {tmp:Obj} (hI:OfI w m lb N0 bs w5 xs v W) (hm:w.heap.size<=m) (S:m<N0) (hN:N0<=W.heap.size) (U:w.heap.size<=N0)
  (ho:w9.ownsRow N0 46 1 (.slice va (xs.length+1) vc) (xs.length+1) (xs.map (fun x=> .int .u64 (wAt bs x))++[.int .u64 (wAt bs x)])) (hg:((W.alloc tmp).drew).grownBy w9 v.ownBlock):
  KeepsFrom N0 W (w9.setCell ⟨m,1,none⟩ (.slice va (xs.length+1) vc))/\q0u [m] N0 W (w9.setCell ⟨m,1,none⟩ (.slice va (xs.length+1) vc))/\OfI w m lb N0 bs w5 (xs++[x]) (.slice va (xs.length+1) vc) (w9.setCell ⟨m,1,none⟩ (.slice va (xs.length+1) vc)):=by
 have M:=q3c hI.own;have hb:Only v.ownBlock.toList W w9:=((Only.refl _ W).alloc tmp).drew.trans (Only.of_grown (f:=v.ownBlock.toList) hg (fun k hk=>by simp[hk])) (fun x hx=>Or.inl hx);have O:m∉v.ownBlock.toList:=fun hc=>by have:=(M m (by simpa[Option.mem_toList] using hc)).1;omega
 have L:=hb.blk hI.blk O;have I:Only (m::v.ownBlock.toList) W (w9.setCell ⟨m,1,none⟩ (.slice va (xs.length+1) vc)):=(hb.mono (fun x hx=>AW _ hx)).setCell (Or.inl (by simp)) _
 have hk:q0u [m] N0 W (w9.setCell ⟨m,1,none⟩ (.slice va (xs.length+1) vc)):=⟨I.size,fun k hk hn=>I.block k (AL hk hN) (fun hc=>by
  rcases AN.1 hc with h|h;·exact hn (by simp[h])
  ·have:=(M k (by simpa[Option.mem_toList] using h)).1;omega)⟩
 refine⟨⟨I.size,fun k o hB hk ho=> ?_⟩,hk,⟨L.set_ 1 _,?_,?_,hI.keep.trans hk⟩⟩
 ·refine(I.block k (AA.1 hk).1 (fun hc=> ?_)).trans hk;rcases AN.1 hc with h|h;·omega
  ·obtain⟨_,o',h1,h2⟩:=M k (by simpa[Option.mem_toList] using h);rw[hk] at h1;cases h1;rw[ho] at h2;cases h2
 ·have h1:(w9.setCell ⟨m,1,none⟩ (.slice va (xs.length+1) vc)).ownsRow N0 46 1 (.slice va (xs.length+1) vc) (xs.length+1) (xs.map (fun x=> .int .u64 (wAt bs x))++[.int .u64 (wAt bs x)]):=
   ((Only.refl [m] w9).setCell (Or.inl (by simp)) _).own ho (fun k hk hc=>by have:=(q3c ho k hk).1;simp at hc;omega)
  simpa using h1
 ·refine⟨I.os.trans hI.bel.os,I.tape.trans hI.bel.tape,I.output.trans hI.bel.output,AH hI.bel.size I.size,fun k hk=> ?_⟩;refine(I.block k (AL hk hI.bel.size) (fun hc=> ?_)).trans (hI.bel.block k hk);rcases AN.1 hc with h|h;·omega
  ·have:=(M k (by simpa[Option.mem_toList] using h)).1;omega
theorem y0v (p:Option Addr) (cap:Nat) (bs:List Int) (hm:mayB bs.length=true) (k5:cap<=9223372036854775807) (w:World) (h:q1m w p cap bs):
  CallsIn Fence.wide 5 Tryz.prog 29 #[.slice p bs.length cap] w fun e W'=> ∃(m:Nat) (B:MB),e= .returned (.tuple #[ptrV m,.int .i64 0])/\q4f W' m B (q3y (q0b bs))/\Below w.heap.size w W'/\ ∀k∈q2g m B (q3y (q0b bs)),w.heap.size<=k:=by
 obtain⟨q,hq⟩:∃q,bs.length=8*q:=⟨bs.length/8,by unfold mayB at hm;simp at hm;omega⟩;have kf:(bs.length:Int)<9223372036854775808:=by have:=h.1;omega
 obtain⟨N,hN⟩:∃N,N=bs.length:=⟨_,rfl⟩;rw[<- hN] at hm kf hq ⊢;have HH:=hid h;have HM:=hid hm;have HQ:=hid hq;have HN:=hid hN;clear hq hN;refine callsIn_of_wp_marks Tryz.func29 rfl trivial ?_ rfl;simp only[Tryz.ntmps29,List.size_toArray,List.length_cons,List.length_nil,Nat.reduceAdd,Nat.reduceSub,Array.replicate_succ,Array.replicate_zero,List.push_toArray,List.append_toArray,List.nil_append,List.cons_append];have zr:(Instr.makeMap 204 none).run Tryz.prog w= .ok (.map (some w.heap.size)) (w.alloc (.map #[] 0)):=by simp[Instr.makeMap,run_underlying Tryz.underlying204]
 clear h hm;gi_wp2_with fail;refine⟨trivial,(callsIn_wide.2 (v6r N _ kf)).mono ?_⟩;rintro e w1 ⟨rfl,rfl⟩;rw[HM.out];gi_wp2_with fail;refine⟨trivial,(z4m _ _ _ ⟨_,_,_,rfl⟩).mono ?_⟩;rintro e w1 ⟨rfl,rfl⟩;gi_wp2_with fail;obtain⟨b,off,rfl,hbl,kk⟩:∃b off,p=some ⟨b,off,none⟩/\b<w.heap.size/\ ∀i x,bs[i]?=some x->w.cell? ⟨b,off+i,none⟩=some (.int .u8 x):=HH.out.2.2 (by have:=HM.out;have:=HN.out;unfold mayB at*;simp at*;omega);generalize hW5:World.alloc _ (Obj.cells #[Value.int IntKind.i64 8] 3)=W5;obtain⟨lb,h4⟩:∃lb,lb=w.heap.size:=⟨_,rfl⟩;obtain⟨m,hm⟩:∃m,m=w.heap.size+1:=⟨_,rfl⟩;obtain⟨pv,hp⟩:∃pv,pv=w.heap.size+1+1:=⟨_,rfl⟩;obtain⟨Bs,hf⟩:∃Bs,Bs=w.heap.size+1+1+1:=⟨_,rfl⟩;obtain⟨Bn,hs⟩:∃Bn,Bn=w.heap.size+1+1+1+1:=⟨_,rfl⟩;rw[<- hs,<- hf,<- hp,<- hm,<- h4];have z2:W5.heap.size=w.heap.size+5:=by rw[<- hW5];simp
 have hbel:Below w.heap.size w W5:=by rw[<- hW5];exact ba (ba (ba (ba (ba (Below.refl _ _) _) _) _) _) _
 have ha:Blk W5 m 206 #[.slice none 0 0,.slice none 0 0,.map (some lb),.int .u64 0,.int .u64 0,.int .u64 0,.int .u64 0]:=by rw[<- hW5,hm,h4];exact(((by simpa using Blk.new (w.alloc (.map #[] 0)) 206 #[.slice none 0 0,.slice none 0 0,.map (some w.heap.size),.int .u64 0,.int .u64 0,.int .u64 0,.int .u64 0]:Blk ((w.alloc (.map #[] 0)).alloc (.cells #[.slice none 0 0,.slice none 0 0,.map (some w.heap.size),.int .u64 0,.int .u64 0,.int .u64 0,.int .u64 0] 206)) (w.heap.size+1) 206 #[.slice none 0 0,.slice none 0 0,.map (some w.heap.size),.int .u64 0,.int .u64 0,.int .u64 0,.int .u64 0]).alloc _).alloc _).alloc _
 have h5:W5.heap[lb]?=some (.map #[] 0):=by rw[<- hW5,h4];rw[Below.heap_alloc _ _ _ (by simp;omega),Below.heap_alloc _ _ _ (by simp;omega),Below.heap_alloc _ _ _ (by simp;omega),Below.heap_alloc _ _ _ (by simp)];exact heap_alloc_new _ _
 have kn:W5.cell? ⟨pv,0,none⟩=some (ptrV m):=by rw[<- hW5,hp,hm];clear hW5;go_simp
 have zh:W5.cell? ⟨Bs,0,none⟩=some (.slice (some ⟨b,off,none⟩) N cap):=by rw[<- hW5,hf];clear hW5;go_simp
 have z8:W5.cell? ⟨Bn,0,none⟩=some (.int .i64 8):=by rw[<- hW5,hs];clear hW5;go_simp
 have HB:=hid (⟨h4,hm,hp,hf,hs,z2⟩:_/\_/\_/\_/\_/\_);have h3:=hid hbel;have k4:=hid ha;have k7:=hid h5;have kg:=hid kn;have z9:=hid kk;have kh:Bs<W5.heap.size/\Bn<W5.heap.size/\Bs∉ [m]/\Bn∉ [m]:=by simp;omega
 have hi:=hid kh;clear h4 hm hp hf hs z2 hbel ha h5 kn kk hW5 kh
 refine wpIn_rangeFunc_ownG rfl (by omega) (gf:=171) (lb:= #[.pointer (some ⟨Bs,0,none⟩),.pointer (some ⟨Bn,0,none⟩)]) rfl trivial (enters_of Tryz.func171 (by kernel_rfl) rfl)
  (z2l 4 q b off cap (some ⟨b,off,none⟩) [m] W5.heap.size Bs Bn W5 (by have:=HQ.out;have:=HN.out;have:=HH.out.1;omega) k5 (fun _=>rfl) hi.out.1 hi.out.2.1 hi.out.2.2.1 hi.out.2.2.2 (AG _) (by rw[<- HQ.out];exact zh) z8) q0u.trans ?hKb (Below.refl _ _) (fun _=>rfl)
  (fun(xs:List (Fin q)) W=> ∃v,OfI w m lb W5.heap.size bs W5 (xs.map (·.val)) v W) (fun _ _ _=>False) (OfI.own_from q h3.out.size (AG _) (AG _)) (fun _ _ _ _ _ h=>h.elim)
  ?h0
  (fun x=>{ tmps:= #[.slice (some ⟨b,off,none⟩) N cap,undef,.pointer none,.int .i64 0,.pointer (some ⟨pv,0,none⟩),(.slice (some ⟨b,off+8*x.val,none⟩) 8 8),undef,undef,.slice (some ⟨b,off,none⟩) N cap,.int .i64 N,.bool true,.bool false,.map (some lb),.agg #[.slice none 0 0,.slice none 0 0,.map (some lb),.int .u64 0,.int .u64 0,.int .u64 0,.int .u64 0],.pointer (some ⟨m,0,none⟩),.slice (some ⟨b,off,none⟩) N cap,.func (.func 171) #[] #[.pointer (some ⟨Bs,0,none⟩),.pointer (some ⟨Bn,0,none⟩)],(.slice (some ⟨b,off+8*x.val,none⟩) 8 8),undef,undef,undef,undef,undef,undef,undef,undef,undef,undef,undef,undef,undef,undef,undef,undef,undef,undef,undef,undef,undef,undef,undef,undef,undef,undef,undef,undef,undef,undef,undef,undef,undef,undef,undef],defers:=[] }) ?assign ?body ?done ?stop
 case hKb=>intro W l o o' hl ho hc hw;exact q0u.putObj (q0u.refl _ _ _) hl _
 case h0=>exact⟨_,k4.out,⟨rfl,Or.inl ⟨rfl,rfl⟩⟩,h3.out,q0u.refl _ _ _⟩
 case assign=>intro l x W K hK;gi_wp2;exact hK
 case body=>
  rintro l pre x W ⟨v,hI⟩ hlt;gi_wp2_with fail;obtain⟨cs,hx⟩:∃cs,cs=(bs.drop (8*x.val)).take 8:=⟨_,rfl⟩;have ze:=x.isLt;have h8:cs.length=8:=by rw[hx];have:=HQ.out;have:=HN.out;simp;omega
  have kz:∀j c,cs[j]?=some c->W.cell? ⟨b,off+8*x.val+j,none⟩=some (.int .u8 c)/\0<=c/\c<256:=by
   intro j c hj;have zg:j<8:=by have:=(AE.1 hj).1;omega
   rw[hx,AV,if_pos zg,Ar] at hj;have h1:=z9.out _ _ hj;refine⟨?_,HH.out.2.1 c (AJ hj)⟩;rw[hI.bel.cell (by exact hbl),<- Ce] at*;exact h1
  have kd:=hid kz;have HI:=hid hI;have h7:=hid h8;have zc:=hid hx;clear kz hI h8 hx;gi_loop [6,7,20] (fun v _ i=> ∃k:Nat,k<=8/\i= .int .i64 k/\v= .int .u64 (leW (cs.take k))) (fun _ _ i=>(8- (intOf i).toNat));case atStart=>exact⟨0,by omega,rfl,rfl⟩
  case round=>
   obtain⟨k,hk,rfl,rfl⟩:=hrel;by_cases hlt2:k<8
   ·obtain⟨c,hc⟩:∃c,cs[k]?=some c:=⟨_,AD (by have:=h7.out;omega)⟩;obtain⟨y0,y1,y2⟩:=kd.out k c hc;have i1:(0:Int)<=k:=by omega
    have i2:(k:Int)<8:=by omega
    have HC:=hid hc;clear hc
    have hw:Hid (bits BinOp.or IntKind.u64 (leW (cs.take k)) (IntKind.u64.wrap (c*2^ (8*k)))=leW (cs.take (k+1))):=by
     have hl:(cs.take k).length=k:=by have:=h7.out;simp;omega
     have h1:=q1h (bs:=cs.take k) (fun z hz=>by obtain⟨j,hj⟩:=Bu (Ab hz);exact(kd.out j z hj).2);rw[hl] at h1;rw[v7x h1.1 h1.2 y1 y2 hlt2];have h2:=z5c (cs.take k) c;rw[hl] at h2;rw[<- h2];congr 1;obtain⟨zl,zd⟩:=AE.1 HC.out;rw[BF zl,zd]
    gi_wp2;go_round;case rel=>exact⟨k+1,by omega,by go_num,by rw[hw.out]⟩
    case measure=>simp[intOf];omega
   ·obtain rfl:k=8:=by omega
    have ht:cs.take 8=cs:=AY (by have:=h7.out;omega);rw[ht];obtain⟨y,hy⟩:∃y,y=leW cs:=⟨_,rfl⟩;rw[<- hy];have kj:y=wAt bs x.val:=by rw[hy,zc.out];rfl
    have z7:=hid kj;obtain⟨S,M⟩:∃S,S=pre.length:=⟨_,rfl⟩;have k1:S<131073:=by have h1:=HQ.out;have h2:=HM.out;unfold mayB at h2;simp at h2;omega
    have I:=HI.out.own;rw[AO,<- M] at I;have L:pv<W5.heap.size/\pv∉ [m]/\m<W5.heap.size:=by have:=HB.out;simp;omega
    have z0:W.cell? ⟨pv,0,none⟩=some (ptrV m):=(HI.out.keep.cell (p:=⟨pv,0,none⟩) L.1 L.2.1).trans kg.out;have ke:W5.heap.size<=W.heap.size:=HI.out.keep.size;have zm:W.drew.cell? ⟨pv,0,none⟩=some (ptrV m):=z0;have z1:(W.alloc (.cells #[.int .u64 y] 46)).drew.cell? ⟨pv,0,none⟩=some (ptrV m):=ca _ z0;have z6:W.drew.cell? ⟨m,1,none⟩=some v:=HI.out.blk.cell 1;have ky:(W.alloc (.cells #[.int .u64 y] 46)).drew.cell? ⟨m,1,none⟩=some v:=(HI.out.blk.alloc _).cell 1;have Y:(Tryz.prog.info? 46).map (fun i=>(i.zero,i.size,i.bytes))=some (some (.int .u64 0),1,8):=by kernel_rfl
    obtain⟨i0,ki,z3,kp,kx⟩:=info_parts Y;obtain⟨v',w9,he,O,U,_,h9⟩:=run_append_own_at (P:=Tryz.prog) ((W.alloc (.cells #[.int .u64 y] 46)).drew) W5.heap.size 22 22 46 i0 (.int .u64 0) 1 8 Tryz.underlying22 ki z3 kp kx rfl (by decide) _ _ _ (I.alloc (.cells #[.int .u64 y] 46)) ⟨W.heap.size,0,none⟩ 1 1 [.int .u64 y] rfl (World.news_of_block (Blk.new W 46 #[.int .u64 y])) (by simp[Value.oneCell']) (by unfold maxLen;omega) (by omega) (by simp;omega);obtain⟨kq,ko,rfl⟩:=z1a O
    have k8:some m≠v.ownBlock:=fun e=>by
     have:=I.2;rcases this with⟨h1,_⟩|⟨g,k0,kb,h1,h2,_⟩;·rw[h1] at e;cases e
     ·rw[h1] at e;simp[Value.ownBlock] at e;omega
    have kc:some pv≠v.ownBlock:=fun e=>by
     have:=I.2;rcases this with⟨h1,_⟩|⟨g,k0,kb,h1,h2,_⟩;·rw[h1] at e;cases e
     ·rw[h1] at e;simp[Value.ownBlock] at e;omega
    have hg:Blk w9 m 206 #[.slice none 0 0,v,.map (some lb),.int .u64 0,.int .u64 0,.int .u64 0,.int .u64 0]:=((HI.out.blk.alloc (.cells #[.int .u64 y] 46)).drew).grown U k8;have zy:w9.cell? ⟨m,1,none⟩=some v:=hg.cell 1;have zi:=hg.frozen 1;have zx:w9.cell? ⟨pv,0,none⟩=some (ptrV m):=by rw[World.cell?_of_block (w:=(W.alloc (.cells #[.int .u64 y] 46)).drew) (a:=⟨pv,0,none⟩) (U.block pv (by simp;omega) kc)];exact z1
    have kt:x2r Tryz.prog #[22,22] 22 #[v,.slice (some ⟨W.heap.size,0,none⟩) 1 1] ((W.alloc (.cells #[.int .u64 y] 46)).drew)= .ok (.slice kq (S+1) ko) w9:=he;clear he;have zz:(W.drew.alloc (.cells #[.int .u64 y] 46)).cell? ⟨pv,0,none⟩=some (ptrV m):=z1;have zs:(W.drew.alloc (.cells #[.int .u64 y] 46)).cell? ⟨m,1,none⟩=some v:=ky;have z5:=hid O;have zk:=hid U;have zo:=hid hg;have zv:=hid k8;have zp:=hid kc;have zn:=hid h9;have k9:=hid I;have km:=hid M;have za:=hid ke;have HV:=hid L;clear hk hlt2 kj hy kd O U hg k8 kc h9 I ki z3 kp kx Y M k1 ke L hlt ze;gi_wp2_with fail;refine z1q (X:= ?X) (fun key=> ?_) ?_
    rotate_left
    ·gi_region_with fail;all_goals exact key.out
    gi_wp2;have hh:=OfI.step (x:=x.val) (tmp:= .cells #[.int .u64 y] 46) HI.out (by have:=HB.out;omega) HV.out.2.2 za (by have:=HB.out;omega) (va:=kq) (vc:=ko) (by rw[AO,<- km.out,<- z7.out];exact z5.out) zk.out;rw[AO,<- km.out] at hh;refine⟨hh.1,hh.2.1,⟨_,by rw[Ah];exact hh.2.2⟩⟩
 case done=>
  rintro D xs W hD rfl ⟨v,hI⟩ hK;have L:pv<W5.heap.size/\pv∉ [m]/\m<W5.heap.size/\pv≠m:=by have:=HB.out;simp;omega
  have z0:W.drew.cell? ⟨pv,0,none⟩=some (ptrV m):=(hI.keep.cell (p:=⟨pv,0,none⟩) L.1 L.2.1).trans kg.out;have ky:W.drew.cell? ⟨m,1,none⟩=some v:=hI.blk.cell 1;have I:=hI.own;have kr:((List.finRange q).map (·.val)).length=q:=by simp
  rw[kr] at I;have HI:=hid hI;have k9:=hid I;have h8:Calls Tryz.prog 107 #[v] W.drew (x7t W.drew q (((List.finRange q).map (·.val)).map fun x=> .int .u64 (wAt bs x))):=x3j v q _ W.drew (v6e I) (by have h1:=HQ.out;have h2:=HM.out;unfold mayB at h2;simp at h2;omega) (by intro u hu;simp only[List.mem_map] at hu;obtain⟨y,_,rfl⟩:=hu;rfl);have h7:=hid h8;have HV:=hid L;have zq:pv≠m:=L.2.2.2;have q0:q<=1000000:=by have h1:=HQ.out;have h2:=HM.out;unfold mayB at h2;simp at h2;omega
  clear hI I kr L h8;have HK:=hid hK;clear hK;gi_wp2_with fail;refine wpIn_mono (Q:=x0v _) ?_ x0v.imp
  gi_region_with (first
   | (refine⟨trivial,?_⟩;gi_at_call 107;refine(callsIn_wide.2 h7.out).mono ?_;rintro e v1 ⟨v',rfl,hr,hb⟩;obtain⟨va,vc,rfl⟩:=z1a hr;have HR:=hid hr;have h6:=hid hb;have zt:v1.cell? ⟨pv,0,none⟩=some (ptrV m):=ck z0 hb;have z6:=(HI.out.blk.drew.bel hb).cell 0;have zb:=(HI.out.blk.drew.bel hb).frozen 0;clear hr hb))
  all_goals
   refine x0v.normal ?_;try go_simp
   try simp only[Act.put,List.setIfInBounds_toArray,List.set_cons_zero,List.set_cons_succ]
   gi_wp2;have zj:Below W.heap.size W v1:=⟨h6.out.os,h6.out.tape,h6.out.output,h6.out.size,h6.out.block⟩;obtain⟨⟨B,k3,zf⟩,hbel,z4⟩:=x5q (D:=D) (o':= .deferred none) (by rw[<- HN.out];exact HQ.out) (by have h1:=HQ.out;have h2:=HM.out;unfold mayB at h2;simp at h2;omega) (by have h1:=HQ.out;have h2:=HM.out;unfold mayB at h2;simp at h2;omega) HI.out (by have:=HB.out;omega) HV.out.2.2.1 (by have:=HB.out;omega) (by have:=HB.out;omega) (by have:=HB.out;omega) h3.out.size k7.out (AG _) zj HR.out hD HK.out rfl rfl;refine⟨by simp,.inl ⟨_,_,rfl,run_takeDeferred z4,?_⟩⟩;refine⟨_,?_,m,B,rfl,k3,hbel,zf⟩;simp[results,Tryz.results29,go_sem]
 case stop=>exact fun _ _ _ _ _ _ h=>h.elim
end
section
open Go.RowKit Go.Shelf
theorem v9f (p:Option Addr) (cap:Nat) (bs:List Int) (hm:mayB bs.length=true) (I:cap<=9223372036854775807) (w:World) (h:q1m w p cap bs):
  Calls Tryz.prog 29 #[.slice p bs.length cap] w fun e W'=> ∃(m:Nat) (B:MB),e= .returned (.tuple #[ptrV m,.int .i64 0])/\q4f W' m B (q3y (q0b bs))/\Below w.heap.size w W'/\ ∀k∈q2g m B (q3y (q0b bs)),w.heap.size<=k:=
 callsIn_wide.1 (y0v p cap bs hm I w h)
theorem x4g (n:Nat):madeCells #[Value.int .u8 0] n=Array.replicate n (.int .u8 0):=by apply DV;rw[toList_madeCells_one];simp
theorem z6n:∀n,leW (List.replicate n 0)=0
 | 0=>rfl
 | n+1=>by rw[List.replicate_succ,leW,z6n n];rfl
theorem q9m (n:Nat):q0b (List.replicate n 0)=List.replicate (n/8) 0:=by
 unfold q0b;apply Bf;intro i;rw[AM,CB];by_cases h:i<n/8;·rw[BM h];simp only[Option.map_some,wAt,List.drop_replicate,List.take_replicate];rw[z6n,Cm,if_pos h]
 ·rw[Ax (by simp;omega),Ax (by simp;omega)];rfl
theorem y0p (n:Nat) (hm:mayB n=true) (w:World):
  Calls Tryz.prog 103 #[.int .i64 (n:Int)] w fun e W'=> ∃(m:Nat) (B:MB),e= .returned (.tuple #[ptrV m,.int .i64 0])/\q4f W' m B (q3y (List.replicate (n/8) 0))/\Below w.heap.size w W'/\ ∀k∈q2g m B (q3y (List.replicate (n/8) 0)),w.heap.size<k:=by
 have M:64<=n/\n<=1048576:=by unfold mayB at hm;simp at hm;omega
 have HM:=hid hm;have i1:(0:Int)<=(n:Int):=by omega
 have i2:(n:Int)<=281474976710656:=by omega
 have HN:=hid M;have S:=run_make_row' (P:=Tryz.prog) 36 5 (.int .u8 0) 1 Tryz.underlying36 (by kernel_rfl) rfl .i64 .i64 n (by omega) (by omega) w;clear hm M;go_enter Tryz.func103,Tryz.ntmps103;go_wp2_with fail;refine(v6r n _ (by omega)).mono ?_;rintro e w1 ⟨rfl,rfl⟩;rw[HM.out];go_wp2_with fail;have hb:=v1l w n 5 (by have:=HN.out;omega);have hl:(List.replicate n (0:Int)).length=n:=CB;have I:=v9f (some ⟨w.heap.size,0,none⟩) n (List.replicate n 0) (by rw[hl];exact HM.out) (by have:=HN.out;omega) _ hb;rw[hl] at I;rw[x4g];refine I.mono ?_;rintro e w2 ⟨m,B,rfl,hm,hbel,L⟩;rw[q9m] at hm L;have O:=hid hm;have HB:=hid hbel;have U:=hid L;clear hb hl hm hbel L S I;go_wp2;go_ret2;refine⟨m,B,rfl,O.out,bx (ba (Below.refl _ w) _) HB.out,fun k hk=> ?_⟩;have:=U.out k hk;simp at this;omega
end
end Go.Proofs.YtibiekfjbibpbaaGreat
