import Derived.Test.YtibiekfjbibpbaaGreatRepM
set_option maxRecDepth 100000
set_option maxHeartbeats 8000000
set_option linter.unusedVariables false
set_option linter.unusedSimpArgs false
namespace Go.Proofs.YtibiekfjbibpbaaGreat
open Go.RowKit Go.Shelf
attribute [local go_sem] Oper.semAt_some q0h
attribute [local go_sem ↓ high] q0v
def adrV (x:Nat):Value:= .int .u64 (8*(x:Int))
def adL (xs:List Nat):List Int:=xs.map fun(x:Nat)=>8*(x:Int)
theorem v2m (n q:Nat) (hq:q<=131072) (F:List Nat) (N0 l Bn:Nat) (J Jx:List (Fin q)->World->Prop) (W:World)
  (Y:Bn<N0) (M:Bn∉F) (hN:N0<=W.heap.size)
  (hY:∀pre (x:Fin q) W1,J pre W1->pre.length<q->YieldAt Fence.wide (n-1) Tryz.prog l #[adrV x.val] W1 fun e W'=>(e= .returned (.bool true)/\J (pre++[x]) W'/\q0u F N0 W1 W')\/(e= .returned (.bool false)/\Jx (pre++[x]) W'))
  (hn:W.cell? ⟨Bn,0,none⟩=some (.int .i64 ((8*q:Nat):Int))) (h0:J [] W):
  CallsIn Fence.wide n Tryz.prog 172 #[.func (.yield l) #[] #[],.pointer (some ⟨Bn,0,none⟩)] W fun e W'=>(∃v,e= .returned v)/\
   ((∃ys,ys=List.finRange q/\J ys W')\/(∃pre,pre<+:List.finRange q/\Jx pre W')):=by
 refine callsIn_of_wp Tryz.func172 rfl trivial ?_ rfl;simp only[Tryz.ntmps172,List.size_toArray,List.length_cons,List.length_nil,Nat.reduceAdd,Nat.reduceSub,Array.replicate_succ,Array.replicate_zero,List.push_toArray,List.append_toArray,List.nil_append,List.cons_append];obtain⟨Z,hZ⟩:∃Z,Z=8*q:=⟨_,rfl⟩;rw[<- hZ] at hn;have HZ:=hid hZ;have h1:=hid hn;clear hn hZ;gi_wp2_with fail;gi_loopw [3] (fun i wr=> ∃k:Nat,k<=q/\i= .int .i64 (8*k:Nat)/\J ((List.finRange q).take k) wr/\q0u F N0 W wr) (fun i _=>(8*q- (intOf i).toNat));case atStart=>exact⟨0,by omega,rfl,h0,q0u.refl _ _ _⟩
 case round=>
  obtain⟨i,hi,rfl,L,hK⟩:=hrel;have x2:=(hK.cell (p:=⟨Bn,0,none⟩) Y M).trans h1.out;by_cases hlt:i<q
  ·have i1:(0:Int)<=((8*i:Nat):Int):=by omega
   have i2:((8*i:Nat):Int)< (Z:Int):=by have:=HZ.out;omega
   have i3:IntKind.u64.wrap (8*(i:Int))=8*(i:Int):=by rw[IntKind.wrap_u64];have:=HZ.out;omega
   obtain⟨fn,tmps,assign,body,hy,hR⟩:=hY _ (⟨i,hlt⟩:Fin q) _ L (by simp;omega);have hT:(List.finRange q).take i++[⟨i,hlt⟩]=(List.finRange q).take (i+1):=by rw[BF (by simpa using hlt)];simp
   have HR:=hid hR;clear hR L;unfold adrV at hy;gi_wp2_with fail;refine⟨fun h=>by simp[Fence.wide] at h,HR.out.mono ?_⟩;rintro e W3 (⟨rfl,U,O⟩|⟨rfl,I⟩)
   ·rw[hT] at U;have K3:=hid (hK.trans O);clear hK O x2 hy;gi_wp2;go_roundw;case rel=>exact⟨i+1,by omega,by go_num,U,K3.out⟩
    case measure=>simp[intOf];omega
   ·rw[hT] at I;gi_wp2;refine bodyPost_ret (results_none rfl _ _ _) rfl ?_;exact⟨⟨_,rfl⟩,.inr ⟨_,DO _ _,I⟩⟩
  ·have S:J (List.finRange q) wr:=by rw[AY (by simp;omega)] at L;exact L
   obtain rfl:i=q:=by omega
   have i2: ¬((8*i:Nat):Int)< (Z:Int):=by have:=HZ.out;omega
   gi_wp2;go_end0;first|exact⟨⟨_,rfl⟩,.inl S⟩|exact .inl S
theorem x4l (n q:Nat) (hq:q<=131072) (F:List Nat) (N0 Bn:Nat) (w:World) (L:Bn<N0) (I:Bn∉F) (hN:N0<=w.heap.size)
  (hn:w.cell? ⟨Bn,0,none⟩=some (.int .i64 ((8*q:Nat):Int))):
  SeqStopsK Fence.wide n Tryz.prog 172 #[.pointer (some ⟨Bn,0,none⟩)] (fun x:Fin q=> #[adrV x.val]) (q0u F N0) (fun ys=>ys=List.finRange q) (fun pre=>pre<+:List.finRange q) q w:=by
 intro l J Jx W hW hJ _ hY h0;have h2:=(hW.cell (p:=⟨Bn,0,none⟩) (World.block_lt_of_cell? w _ hn)).trans hn;exact v2m n q hq F N0 l Bn J Jx W L I (AH hN hW.size) hY h2 h0
theorem x6e (n:Nat) (z:Int) (w:World):
  CallsIn Fence.wide n Tryz.prog 108 #[.int .i64 z] w fun e w'=>e= .returned (.func (.func 172) #[] #[.pointer (some ⟨w.heap.size,0,none⟩)])/\
   w'=w.alloc (.cells #[.int .i64 z] 3):=by
 refine callsIn_of_wp Tryz.func108 rfl trivial ?_ rfl;simp only[Tryz.ntmps108,List.size_toArray,List.length_cons,List.length_nil,Nat.reduceAdd,Nat.reduceSub,Array.replicate_succ,Array.replicate_zero,List.push_toArray,List.append_toArray,List.nil_append,List.cons_append];gi_wp2;go_ret;exact⟨rfl,rfl⟩
def q3g (o:Nat):Value:= .func (.func 110) #[.pointer (some ⟨o,0,none⟩)] #[]
def opnC (m:Nat) (tv wv st:Value) (dn:Bool) (bad:Int) (pv rv fv kv:Value) (h nn:Int):Array Value:=#[ptrV m,tv,wv,st,.bool dn,.int .i64 bad,pv,rv,fv,kv,.int .i64 h,.int .i64 nn]
def nilS:Value:= .slice none 0 0
structure OpI (w:World) (o m N0:Nat) (w5:World) (xs:List Nat) (v:Value) (W:World):Prop where
 blk:Blk W o 212 (opnC m v nilS .nilFunc false 0 nilS nilS nilS nilS 0 0)
 own:rowU W N0 v (adL xs)
 bel:Below w.heap.size w W
 keep:q0u [o] N0 w5 W
theorem OpI.own_from {w:World} {o m N0 B:Nat} {w5:World} (q:Nat) (h1:w.heap.size<=B) (h2:N0<=B) (h3:N0<=w5.heap.size):OwnFrom B (fun(xs:List (Fin q)) W=> ∃v,OpI w o m N0 w5 (xs.map (·.val)) v W):=by
 rintro xs W W' row ⟨v,h⟩ hg hr;have I:∀r,row=some r-> ∃o:Obj,W.heap[r]?=some o/\o.isCells=false:=fun r e=>(hr r e).2
 exact⟨v,z3y h.blk hg I,z8d h.own hg I,⟨hg.os.trans h.bel.os,hg.tape.trans h.bel.tape,hg.output.trans h.bel.output,AH h.bel.size hg.size,fun k hk=>(hg.block k (AL hk h.bel.size) (fun e=>by have:=(hr k e.symm).1;omega)).trans (h.bel.block k hk)⟩,
  ⟨AH h.keep.size hg.size,fun k hk hn=>by
   by_cases hkw:k<W.heap.size;·exact(hg.block k hkw (fun e=>by have:=(hr k e.symm).1;omega)).trans (h.keep.block k hk hn)
   ·exact absurd (AL hk (AH h3 h.keep.size)) hkw⟩⟩
theorem q8j {w:World} {base I:Nat} {e:TypeId} {size n:Nat} {v:Value} {xs:List Value} (h:w.ownsRow base e size v n xs) (hb:I<=base):w.ownsRow I e size v n xs:=⟨h.1,h.2.imp id fun⟨g,cap,cur,h1,h2,h3⟩=>⟨g,cap,cur,h1,AH hb h2,h3⟩⟩
theorem q1d {w:World} {base:Nat} {v:Value} {xs:List Int} (h:rowU w base v xs):∀k,v.ownBlock=some k->base<=k/\ ∃o:Obj,w.heap[k]?=some o/\o.isCells=true:=q3c (e:=51) (size:=1) h
theorem OpI.step {w W w9 w5:World} {o m N0:Nat} {xs:List Nat} {v v9:Value} {x:Nat} (hI:OpI w o m N0 w5 xs v W) (hm:w.heap.size<=o) (S:o<N0) (hN:N0<=W.heap.size)
  (ho:rowU w9 N0 v9 (adL xs++[8*(x:Int)])) (hb:Only v.ownBlock.toList W w9):
  KeepsFrom N0 W (w9.setCell ⟨o,1,none⟩ v9)/\q0u [o] N0 W (w9.setCell ⟨o,1,none⟩ v9)/\OpI w o m N0 w5 (xs++[x]) v9 (w9.setCell ⟨o,1,none⟩ v9):=by
 have M:=q1d hI.own;have O:o∉v.ownBlock.toList:=fun hc=>by have:=(M o (by simpa[Option.mem_toList] using hc)).1;omega
 have L:=hb.blk hI.blk O;have I:Only (o::v.ownBlock.toList) W (w9.setCell ⟨o,1,none⟩ v9):=(hb.mono (fun x hx=>AW _ hx)).setCell (Or.inl (by simp)) _
 have hk:q0u [o] N0 W (w9.setCell ⟨o,1,none⟩ v9):=⟨I.size,fun k hk hn=>I.block k (AL hk hN) (fun hc=>by
  rcases AN.1 hc with h|h;·exact hn (by simp[h])
  ·have:=(M k (by simpa[Option.mem_toList] using h)).1;omega)⟩
 refine⟨⟨I.size,fun k ob hB hk ho=> ?_⟩,hk,⟨L.set_ 1 _,?_,?_,hI.keep.trans hk⟩⟩
 ·refine(I.block k (AA.1 hk).1 (fun hc=> ?_)).trans hk;rcases AN.1 hc with h|h;·omega
  ·obtain⟨_,o',h1,h2⟩:=M k (by simpa[Option.mem_toList] using h);rw[hk] at h1;cases h1;rw[ho] at h2;cases h2
 ·have h1:rowU (w9.setCell ⟨o,1,none⟩ v9) N0 v9 (adL xs++[8*(x:Int)]):=
   ((Only.refl [o] w9).setCell (Or.inl (by simp)) _).own ho (fun k hk hc=>by have:=(q1d ho k hk).1;simp at hc;omega)
  simpa[adL] using h1
 ·refine⟨I.os.trans hI.bel.os,I.tape.trans hI.bel.tape,I.output.trans hI.bel.output,AH hI.bel.size I.size,fun k hk=> ?_⟩;refine(I.block k (AL hk hI.bel.size) (fun hc=> ?_)).trans (hI.bel.block k hk);rcases AN.1 hc with h|h;·omega
  ·have:=(M k (by simpa[Option.mem_toList] using h)).1;omega
theorem z5k {P:Program} {w:World} {a:Addr} {m:Mode} (f:Fn) (x y:Array Value):(store a (.func f x y) m).run P w=stored P w a (.func f x y) m:=run_store P w a _ m rfl
attribute [local go_sem] z5k
theorem x7q (m:Nat) (B:MB) (q:Nat) (s:St4) (hy:0<q) (hp:q<=131072) (w:World) (h:Blk w m 206 (memC B q s)):
  CallsIn Fence.wide 5 Tryz.prog 30 #[ptrV m] w fun e W'=> ∃(o:Nat) (v:Value),e= .returned (.pointer (some ⟨o,0,none⟩))/\w.heap.size<=o/\o<W'.heap.size/\
   Blk W' o 212 (opnC m v nilS (q3g o) false 0 nilS nilS nilS nilS 0 0)/\rowU W' w.heap.size v (adL (List.range q))/\v.ownBlock≠some o/\Below w.heap.size w W':=by
 have k9:=hid hy;have HQ:=hid hp;have HH:=hid h;clear hy hp h;refine callsIn_of_wp_marks Tryz.func30 rfl trivial ?_ rfl;simp only[Tryz.ntmps30,List.size_toArray,List.length_cons,List.length_nil,Nat.reduceAdd,Nat.reduceSub,Array.replicate_succ,Array.replicate_zero,List.push_toArray,List.append_toArray,List.nil_append,List.cons_append];gi_wp2_with fail;refine⟨trivial,(callsIn_wide.2 (v3u m B q s k9.out HQ.out _ ((HH.out.alloc _).alloc _))).mono ?_⟩;rintro e w1 ⟨rfl,rfl⟩;gi_wp2_with fail;refine⟨trivial,(x6e _ _ _).mono ?_⟩;rintro e w1 ⟨rfl,rfl⟩;gi_wp2_with fail;obtain⟨o,ho⟩:∃o,o=w.heap.size:=⟨_,rfl⟩;obtain⟨pv,h6⟩:∃pv,pv=w.heap.size+1:=⟨_,rfl⟩;obtain⟨Bn,h4⟩:∃Bn,Bn=w.heap.size+1+1:=⟨_,rfl⟩;generalize hW5:World.alloc _ (Obj.cells #[Value.int IntKind.i64 _] 3)=W5;rw[<- h4,<- h6,<- ho];have k5:W5.heap.size=w.heap.size+3:=by rw[<- hW5];simp
 have hbel:Below w.heap.size w W5:=by rw[<- hW5];exact ba (ba (ba (Below.refl _ _) _) _) _
 have Y:Blk W5 o 212 (opnC m nilS nilS .nilFunc false 0 nilS nilS nilS nilS 0 0):=by rw[<- hW5,ho];exact((Blk.new w 212 _).alloc _).alloc _
 have k8:W5.cell? ⟨pv,0,none⟩=some (.pointer (some ⟨o,0,none⟩)):=by rw[<- hW5,h6,ho];clear hW5;go_simp
 have hf:W5.cell? ⟨Bn,0,none⟩=some (.int .i64 ((8*q:Nat):Int)):=by rw[<- hW5,h4];clear hW5;go_simp
 have hz:Bn<W5.heap.size/\Bn∉ [o]:=by simp;omega
 have HB:=hid (⟨ho,h6,h4,k5⟩:_/\_/\_/\_);have L:=hid hbel;have hj:=hid Y;have ht:=hid k8;have k3:=hid hz;clear ho h6 h4 k5 hbel Y k8 hW5 hz
 refine wpIn_rangeFunc_ownG rfl (by omega) (gf:=172) (lb:= #[.pointer (some ⟨Bn,0,none⟩)]) rfl trivial (enters_of Tryz.func172 (by kernel_rfl) rfl)
  (x4l 4 q HQ.out [o] W5.heap.size Bn W5 k3.out.1 k3.out.2 (AG _) hf) q0u.trans ?hKb (Below.refl _ _) (fun _=>rfl)
  (fun(xs:List (Fin q)) W=> ∃v,OpI w o m W5.heap.size W5 (xs.map (·.val)) v W) (fun _ _ _=>False) (OpI.own_from q L.out.size (AG _) (AG _)) (fun _ _ _ _ _ h=>h.elim)
  ?h0
  (fun x=>{ tmps:= #[ptrV m,undef,.pointer none,.pointer (some ⟨pv,0,none⟩),adrV x.val,ptrV m,.agg #[ptrV m,.slice none 0 0,.slice none 0 0,.nilFunc,.bool false,.int .i64 0,.slice none 0 0,.slice none 0 0,.slice none 0 0,.slice none 0 0,.int .i64 0,.int .i64 0],.pointer (some ⟨o,0,none⟩),ptrV m,.int .i64 ((8*q:Nat):Int),.func (.func 172) #[] #[.pointer (some ⟨Bn,0,none⟩)],adrV x.val,undef,undef,undef,undef,undef,undef,undef,undef,undef,undef,undef,undef,undef,undef,undef,undef],defers:=[] }) ?assign ?body ?done ?stop
 case hKb=>intro W l o o' hl ho hc hw;exact q0u.putObj (q0u.refl _ _ _) hl _
 case h0=>exact⟨_,hj.out,⟨rfl,Or.inl ⟨rfl,rfl⟩⟩,L.out,q0u.refl _ _ _⟩
 case assign=>intro l x W K hK;unfold adrV at hK ⊢;gi_wp2;exact hK
 case body=>
  rintro l pre x W ⟨v,hI⟩ hlt;have kd:=x.isLt;have I:pv<W5.heap.size/\pv∉ [o]/\o<W5.heap.size:=by have:=HB.out;simp;omega
  have z0:W.cell? ⟨pv,0,none⟩=some (.pointer (some ⟨o,0,none⟩)):=(hI.keep.cell (p:=⟨pv,0,none⟩) I.1 I.2.1).trans ht.out;have h7:W5.heap.size<=W.heap.size:=hI.keep.size;obtain⟨xi,h3⟩:∃xi,xi=8*(x.val:Int):=⟨_,rfl⟩;obtain⟨va,vc,w9,M,hg,k1,_⟩:=q5f (W:=W.drew) (((Only.refl [] W).drew).own hI.own (by simp)) h7 xi (by simp[adL];have:=HQ.out;omega);obtain⟨pl,k7⟩:∃pl,pl=(adL (pre.map (·.val))).length+1:=⟨_,rfl⟩;rw[<- k7] at M hg;have O:=q1d hI.own;have S:∀k,k∈v.ownBlock.toList->k≠o/\k≠pv:=fun k hk=>by have h1:=(O k (by simpa using hk)).1;have:=HB.out;omega
  have h5:Only v.ownBlock.toList W w9:=((Only.refl _ W).drew).trans k1 (fun k hk=>Or.inl hk);have hs:=OpI.step hI (by have:=HB.out;omega) I.2.2 h7 (by rw[<- h3];exact hg) h5;have he:=h5.blk hI.blk (fun hc=>(S _ hc).1 rfl);have zm:W.drew.cell? ⟨o,1,none⟩=some v:=hI.blk.cell 1;have kb:(W.drew.alloc (.cells #[.int .u64 xi] 51)).cell? ⟨o,1,none⟩=some v:=(hI.blk.drew.alloc _).cell 1;have ki:w9.cell? ⟨o,1,none⟩=some v:=he.cell 1;have kj:=he.frozen 1;have zp:W.drew.cell? ⟨pv,0,none⟩=some (.pointer (some ⟨o,0,none⟩)):=z0;have kc:(W.drew.alloc (.cells #[.int .u64 xi] 51)).cell? ⟨pv,0,none⟩=some (.pointer (some ⟨o,0,none⟩)):=ca _ zp;have kf:(W.alloc (.cells #[.int .u64 xi] 51)).drew.cell? ⟨pv,0,none⟩=some (.pointer (some ⟨o,0,none⟩)):=kc;have kk:(W.alloc (.cells #[.int .u64 xi] 51)).drew.cell? ⟨o,1,none⟩=some v:=kb;have kg:w9.cell? ⟨pv,0,none⟩=some (.pointer (some ⟨o,0,none⟩)):=(World.cell?_of_block (w:=W) (a:=⟨pv,0,none⟩) (h5.block pv (by have:=I.1;omega) (fun hc=>(S _ hc).2 rfl))).trans z0;have hq:q0n Tryz.prog #[30,30] 30 #[v,.slice (some ⟨W.heap.size,0,none⟩) 1 1] ((W.alloc (.cells #[.int .u64 xi] 51)).drew)= .ok (.slice va pl vc) w9:=M;clear M;have h8:=hid hs;have HX:=hid h3;unfold adrV;rw[<- h3];clear hs h3 hI O S h5 he hg k1 k7 hlt kd I h7 hf;gi_wp2_with fail;refine z1q (X:= ?X) (fun key=> ?_) ?_
  rotate_left
  ·gi_region_with fail;all_goals exact key.out
  gi_wp2;exact⟨h8.out.1,h8.out.2.1,⟨_,by rw[Ah];exact h8.out.2.2⟩⟩
 case done=>
  rintro D xs W hD rfl ⟨v,hI⟩ hK;have I:pv<W5.heap.size/\pv∉ [o]/\o<W5.heap.size:=by have:=HB.out;simp;omega
  have z0:W.cell? ⟨pv,0,none⟩=some (.pointer (some ⟨o,0,none⟩)):=(hI.keep.cell (p:=⟨pv,0,none⟩) I.1 I.2.1).trans ht.out;have zf:=hI.blk.frozen 3;have z3:W.cell? ⟨o,3,none⟩=some .nilFunc:=hI.blk.cell 3;have hl:o<W.heap.size:=hI.blk.lt;have ha:D≠o:=by have:=I.2.2;omega
  have hr:Blk (W.setCell ⟨o,3,none⟩ (q3g o)) o 212 (opnC m v nilS (q3g o) false 0 nilS nilS nilS nilS 0 0):=hI.blk.set_ 3 _;have U:Only [o] W (W.setCell ⟨o,3,none⟩ (q3g o)):=(Only.refl _ _).setCell (Or.inl (by simp)) _;have h9:(W.setCell ⟨o,3,none⟩ (q3g o)).heap[D]?=some (.deferred (some [])):=(U.block D (AA.1 hK).1 (by simpa using ha)).trans hK;have O:=q1d hI.own
  have hh:rowU (W.setCell ⟨o,3,none⟩ (q3g o)) w.heap.size v (adL (List.range q)):=by
   have h1:=U.own (hI.own) (fun k hk hc=>by have:=(O k hk).1;simp at hc;omega);have e:(List.finRange q).map (·.val)=List.range q:=by apply Bf;intro i;by_cases hi:i<q<;>simp[hi]
   rw[e] at h1;exact q8j h1 (by have:=L.out.size;omega)
  have hm:Below w.heap.size w (W.setCell ⟨o,3,none⟩ (q3g o)):=U.below (fun x hx=>by simp at hx;have:=HB.out;omega) hI.bel.size |>fun h=>hI.bel.trans h
  have S:v.ownBlock≠some o:=fun e=>by have:=(O o e).1;omega
  have kh:pv≠o:=by have:=HB.out;omega
  have oD:Only [D] (W.setCell ⟨o,3,none⟩ (q3g o)) ((W.setCell ⟨o,3,none⟩ (q3g o)).putObj D (.deferred none)):=Only.putObj (Only.refl _ _) (Or.inl (by simp)) _;have k0:=oD.own hh (fun k hk hc=>by obtain⟨_,ob,h1,h2⟩:=q1d hh k hk;rw[AF.1 hc,h9] at h1;cases h1;cases h2);have k4:w.heap.size<=D:=by have:=HB.out;omega
  have HF:=hid (⟨AL hl (AH U.size oD.size),oD.blk hr (by simp;exact fun e=>ha e.symm),k0,S,hm.trans (oD.below (fun x hx=>by rw[AF.1 hx];exact k4) hm.size)⟩:_/\_/\_/\_/\_);have ke:=hid h9;clear hr hh S hm h9 U O ha hI hK hf oD k0 k4;gi_wp2_with fail;refine⟨by simp,.inl ⟨_,_,rfl,run_takeDeferred ke.out,?_⟩⟩;refine⟨_,?_,o,v,rfl,by have:=HB.out.1;omega,HF.out⟩;simp[results,Tryz.results30,go_sem]
 case stop=>exact fun _ _ _ _ _ _ h=>h.elim
end Go.Proofs.YtibiekfjbibpbaaGreat
