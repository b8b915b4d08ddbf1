import Derived.Test.YtibiekfjbibpbaaGreatLkO
set_option maxRecDepth 100000
set_option maxHeartbeats 4000000
set_option linter.unusedVariables false
set_option linter.unusedSimpArgs false
namespace Go.Proofs.YtibiekfjbibpbaaGreat
open Go.RowKit
section
attribute [local go_sem ↓ high] q0s q0f q0d q0v q5s q4e q5i q5x
attribute [local go_sem] q1x q1p q1v Oper.semAt_some q0h q2t q4g
theorem z6p (n:NodeA) (a h:Int) (f:Bool) (w:World):Calls Tryz.prog 208 #[.agg (q3h n a h f).toArray] w fun e W'=> ∃v,e= .returned v/\x7i w W' v (q1n n h f):=by
 obtain⟨W1,I⟩:∃W1,W1=w.alloc (.cells (q3h n a h f).toArray 196):=⟨_,rfl⟩;have k1:Blk W1 w.heap.size 196 (q3h n a h f).toArray:=by rw[I];exact Blk.new _ _ _
 have L:Below w.heap.size w W1:=by rw[I];exact ba (Below.refl _ _) _
 have ld:=z7e k1;have U:W1.cell? ⟨w.heap.size,22,none⟩=some (.int .u64 h):=k1.cell 22;have S:W1.cell? ⟨w.heap.size,23,none⟩=some (.bool f):=k1.cell 23;have AC:=hid (x8a n h f W1);have O:=hid I;have M:=hid L;clear I k1 L;go_enter Tryz.func208,Tryz.ntmps208;go_upto_region 1 with fail;rw[<- O.out];go_wp2_with fail;refine AC.out.mono ?_;rintro e w2 ⟨v,rfl,hE⟩;obtain⟨va,vc,rfl⟩:∃a c,v= .slice a (q1n n h f).length c:=by obtain⟨ao,cap,e,_⟩:=hE.ents;exact⟨ao,cap,e⟩
 have HE:=hid hE;clear hE;go_wp2;go_ret;exact⟨_,rfl,HE.out.ents,fun b hb=>AH M.out.size (HE.out.new b hb),bx M.out HE.out.bel,HE.out.cap⟩
def isUU (p:Int×Int):Value×Value:=(.int .u64 p.1,.int .u64 p.2)
def MapU (w:World) (mb:Nat) (ps:List (Int×Int)):Prop:= ∃es clock,w.heap[mb]?=some (.map es clock)/\es.toList.map z9i=ps.map isUU
theorem z9a {es:List MapEntry} {ps:List (Int×Int)} (hv:es.map z9i=ps.map isUU):∀e∈es,∃x∈ps,e.key= .int .u64 x.1:=by intro e he;have hm:z9i e∈ps.map isUU:=hv▸By he;obtain⟨x,hx,I⟩:=Aj.1 hm;exact⟨x,hx,(congrArg Prod.fst I).symm⟩
theorem MapU.put {w:World} {mb:Nat} {ps:List (Int×Int)} (h:MapU w mb ps) (a b:Int) (ha:a∉ps.map (·.1)):
  ∃w',(Instr.mapUpdate 301 (.map (some mb)) (.int .u64 a) (.int .u64 b)).run Tryz.prog w= .ok () w'/\MapU w' mb (ps++[(a,b)])/\Only [mb] w w':=by
 obtain⟨es,clock,h1,h2⟩:=h;refine⟨_,z0r w _ _ _ Tryz.underlying301 Tryz.underlying46 mb es clock h1 a (.int .u64 b) (q5o fun e he=>by obtain⟨x,hx,I⟩:=z9a h2 e he;exact⟨x.1,I,fun e=>ha (e▸By hx)⟩),⟨_,_,q9a h1,?_⟩,(Only.refl _ _).putObj (Or.inl (by simp)) _⟩;rw[DM,Ah,h2,Ah];rfl
theorem MapU.look {w:World} {mb:Nat} {ps:List (Int×Int)} (h:MapU w mb ps) (hn:(ps.map (·.1)).Nodup) (a:Int):
  (∃b,(a,b)∈ps/\(Instr.lookup 301 (.map (some mb)) (.int .u64 a) true).run Tryz.prog w= .ok (.tuple #[.int .u64 b,.bool true]) w)\/
  (a∉ps.map (·.1)/\(Instr.lookup 301 (.map (some mb)) (.int .u64 a) true).run Tryz.prog w= .ok (.tuple #[.int .u64 0,.bool false]) w):=by
 obtain⟨es,clock,h1,h2⟩:=h;by_cases hm:a∈ps.map (·.1)
 ·obtain⟨x,hx,rfl⟩:=Aj.1 hm;obtain⟨pre,post,I⟩:=List.append_of_mem hx;left;refine⟨x.2,hx,?_⟩;rw[I,Ah,Be] at h2;have O:x.1∉pre.map (·.1):=by rw[I,Ah,Be,CS] at hn;intro hc;exact hn.2.2 _ hc _ (Ae ..) rfl
  obtain⟨S,h3,k1,k2,k3⟩:=List.map_eq_append_iff.1 h2;obtain⟨e,L,k4,k5,k6⟩:=List.map_eq_cons_iff.1 k3;subst k4;have hk:e.key= .int .u64 x.1:=congrArg Prod.fst k5;have Y:e.val= .int .u64 x.2:=congrArg Prod.snd k5;have hf:=z4s (k:=x.1) (e:=e) (post:=L) hk (pre:=S) (i:=0) (fun d hd=>by obtain⟨y,hy,U⟩:=z9a k2 d hd;exact⟨y.1,U,fun e=>O (e▸By hy)⟩);rw[<- k1,Y] at hf;exact q8x w _ _ _ Tryz.underlying301 Tryz.underlying46 mb es clock h1 x.1 _ (.int .u64 x.2) true hf
 ·right;refine⟨hm,q8k w _ _ _ Tryz.underlying301 Tryz.underlying46 mb es clock h1 a (.int .u64 0) true (by kernel_rfl) (q5o fun e he=> ?_)⟩;obtain⟨x,hx,M⟩:=z9a h2 e he;exact⟨x.1,M,fun e=>hm (e▸By hx)⟩
theorem v1a {ps:List (Int×Int)} (hn:(ps.map (·.1)).Nodup) {a b c:Int} (h1:(a,b)∈ps) (h2:(a,c)∈ps):b=c:=by
 induction ps with
 | nil=>cases h1
 | cons p ps ih=>
  rw[Be,Br] at hn;rcases AN.1 h1 with e1|e1<;>rcases AN.1 h2 with e2|e2;·rw[<- e1] at e2;exact(Prod.mk.inj e2).2.symm
  ·exact absurd (Aj.2 ⟨_,e2,by rw[<- e1]⟩) hn.1
  ·exact absurd (Aj.2 ⟨_,e1,by rw[<- e2]⟩) hn.1
  ·exact ih hn.2 e1 e2
theorem v6j (Bm mb:Nat) (ps:List (Int×Int)) (hn:(ps.map (·.1)).Nodup) (low a:Int) (w:World) (hc:w.cell? ⟨Bm,0,none⟩=some (.map (some mb))) (hm:MapU w mb ps):
  Calls Tryz.prog 207 #[.int .u64 low,.int .u64 a,.pointer (some ⟨Bm,0,none⟩)] w fun e w'=>w'=w/\(((low,a)∈ps/\e= .returned (.tuple #[]))\/((low,a)∉ps/\e= .panicked errC)):=by
 have MY:=hid (q4t w);have MN:=hid (q6f w);rcases hm.look hn low with⟨b,hb,L⟩|⟨I,L⟩
 ·by_cases hba:b=a
  ·have e1:(b==a)=true:=by simp[hba]
   have HB:=hid (show(low,a)∈ps by rw[<- hba];exact hb);clear hb hm hn hba;go_enter Tryz.func207,Tryz.ntmps207;go_wp2_with fail;refine MY.out.mono ?_;rintro e w1 ⟨rfl,rfl⟩;go_wp2;refine bodyPost_end (v:= .tuple #[]) (by simp[results,Tryz.results207,go_sem]) rfl ?_;exact⟨rfl,Or.inl ⟨HB.out,rfl⟩⟩
  ·have e1:(b==a)=false:=by simp[hba]
   have HB:=hid (show(low,a)∉ps from fun h=>hba (v1a hn hb h));clear hb hm hn hba;go_enter Tryz.func207,Tryz.ntmps207;go_wp2_with fail;refine MN.out.mono ?_;rintro e w1 ⟨rfl,rfl⟩;exact⟨rfl,rfl,Or.inr ⟨HB.out,rfl⟩⟩
 ·have HB:=hid (show(low,a)∉ps from fun h=>I (Aj.2 ⟨_,h,rfl⟩));clear hm hn I;go_enter Tryz.func207,Tryz.ntmps207;go_wp2_with fail;refine MN.out.mono ?_;rintro e w1 ⟨rfl,rfl⟩;exact⟨rfl,rfl,Or.inr ⟨HB.out,rfl⟩⟩
end
section
attribute [local go_sem ↓ high] q0s q0f q0d q0v q5s q4e q5i q5x
attribute [local go_sem] q1x q1p q1v Oper.semAt_some q0h q2t q4g
theorem q5n.ld {W W':World} {N:Nat} {ra:Option Addr} {rc n:Nat} {row:List (Int×NodeA)} (h:q5n W N (.slice ra n rc) row) (hb:Below W.heap.size W W') {i:Nat} {x:Int×NodeA} (hx:row[i]?=some x):∃g,ra=some ⟨g,0,none⟩/\ldR Tryz.prog 196 (.pointer (some ⟨g,i*24,none⟩)) W'= .ok (.agg (q3h x.2 x.1 (q2a row i) (hasI row i)).toArray) W':=by have hi:=(AE.1 hx).1;obtain⟨g,cap,Y,I,O,S,U,M,h1,L⟩:=q4i h (by omega);injection I with hs1' _ hs2';exact⟨g,hs1',z5z (i:=i*24) (M.bel hb) (fun j v hv=>z2y L (by rw[q7p hx (by have:=(AE.1 hv).1;rw[z6m] at this;exact this)];exact hv))⟩
theorem q5n.few {W:World} {N:Nat} {v:Value} {row:List (Int×NodeA)} (h:q5n W N v row):row.length<=9223372036854775807:=by
 rcases Bt row.length with h0|h0;·omega
 ·obtain⟨g,cap,I,_,_,h1,h2,_⟩:=q4i h h0;unfold maxLen at h2;omega
def lowAt (y:Int×NodeA):Int×Int:=(y.2.low,y.1)
theorem z5s {down:List (Int×NodeA)} {e:Int×Int}:hitI down e↔(e.1,e.2)∈down.map lowAt:=by
 unfold hitI lowAt;constructor;·rintro⟨y,hy,h1,h2⟩;exact Aj.2 ⟨y,hy,by rw[h1,h2]⟩
 ·intro h;obtain⟨y,hy,he⟩:=Aj.1 h;injection he with h1 h2;exact⟨y,hy,h2,h1⟩
theorem q9x {up:List (Int×NodeA)} {j:Nat} {x:Int×NodeA} (hx:up[j]?=some x):z6w up j=(x.2.low,x.2.fi)::q1n x.2 (q2a up j) (hasI up j):=by unfold z6w actI;rw[hx];rfl
theorem x1j {up down:List (Int×NodeA)} {j:Nat} (hj:j<up.length) {e:Int×Int} (he:e∈z6w up j) (hn:(e.1,e.2)∉down.map lowAt): ¬q4c up down:=fun h=>hn (z5s.1 (h j hj e he))
theorem MapU.bel {w w':World} {mb:Nat} {ps:List (Int×Int)} (h:MapU w mb ps) (hb:Below w.heap.size w w'):MapU w' mb ps:=by obtain⟨es,cl,q1,q2⟩:=h;exact⟨es,cl,(hb.block _ (AA.1 q1).1).trans q1,q2⟩
theorem z3p (N lb:Nat) (up down:List (Int×NodeA)) (ua da:Option Addr) (un dn uc dc:Nat) (hg:un=up.length) (h9:dn=down.length) (k3:(down.map fun y=>y.2.low).Nodup) (w:World) (hu:q5n w N (.slice ua un uc) up) (hd:q5n w N (.slice da dn dc) down):
  Calls Tryz.prog 153 #[.pointer (some ⟨lb,0,none⟩),.slice ua un uc,.slice da dn dc] w fun e w'=>Below w.heap.size w w'/\((q4c up down/\e= .returned (.tuple #[]))\/(¬q4c up down/\e= .panicked errC)):=by
 have z1:(Instr.makeMap 301 none).run Tryz.prog w= .ok (.map (some w.heap.size)) (w.alloc (.map #[] 0)):=by simp[Instr.makeMap,run_underlying Tryz.underlying301]
 have kf:=hu.few;have kn:=hd.few;obtain⟨W1,S⟩:∃W1,W1=(w.alloc (.map #[] 0)).alloc (.cells #[.map (some w.heap.size)] 301):=⟨_,rfl⟩;have k7:Below w.heap.size w W1:=by rw[S];exact ba (ba (Below.refl _ _) _) _
 have hr:MapU W1 w.heap.size []:=by refine⟨#[],0,?_,rfl⟩;rw[S,Below.heap_alloc _ _ _ (by simp)];exact heap_alloc_new w _
 have k1:Blk W1 (w.heap.size+1) 301 #[.map (some w.heap.size)]:=by
  rw[S];have:=Blk.new (w.alloc (.map #[] 0)) 301 #[.map (some w.heap.size)]
  rwa[World.size_alloc] at this
 have HU:=hid hu;have HD:=hid hd;have ht:=hid k3;have kp:=hid S;have H1:=hid (⟨k7,hr,k1⟩:_/\_/\_);have h6:=hid hg;have hz:=hid h9;rw[<- hg] at kf;rw[<- h9] at kn;clear hu hd k3 S k7 hr k1 hg h9;go_enter Tryz.func153,Tryz.ntmps153;go_upto_region 1 with fail;rw[<- kp.out];go_wp2;go_loopw [8,17] (fun s8 iv wr=> ∃i:Nat,i<=dn/\iv= .int .i64 i/\Hid (Below w.heap.size w wr)/\Hid (MapU wr w.heap.size ((down.take i).map lowAt))/\Hid (Blk wr (w.heap.size+1) 301 #[.map (some w.heap.size)])) (fun _ iv _=>dn- (intOf iv).toNat);case atStart=>exact⟨0,Af _,rfl,H1.out.1,H1.out.2.1,H1.out.2.2⟩
 case round=>
  obtain⟨i,hi,rfl,hB,hM,hK⟩:=hrel;have i0:(0:Int)<=(i:Int):=by omega
  by_cases hlt:i<dn
  ·have i1:(i:Int)< (dn:Int):=by omega
   obtain⟨x,hx⟩:∃x,down[i]?=some x:=⟨_,AD (by have:=hz.out;omega)⟩;obtain⟨g,rfl,ld1⟩:=HD.out.ld hB.out hx;obtain⟨W5,kb,k5,I⟩:=z1d wr x.2 x.1 (q2a down i) (hasI down i);have d1:W5.cell? ⟨wr.heap.size,1,none⟩=some (.int .u64 x.2.low):=k5.cell 1;have z6:W5.cell? ⟨wr.heap.size,21,none⟩=some (.int .u64 x.1):=k5.cell 21;have h8:=hK.out.bel I;have z0:W5.cell? ⟨w.heap.size+1,0,none⟩=some (.map (some w.heap.size)):=h8.cell 0;have hp:MapU W5 w.heap.size ((down.take i).map lowAt):=by obtain⟨es,cl,q1,q2⟩:=hM.out;exact⟨es,cl,(I.block _ (AA.1 q1).1).trans q1,q2⟩
   have h4:x.2.low∉ ((down.take i).map lowAt).map (·.1):=by
    intro hc;rw[BU] at hc;obtain⟨y,hy,he⟩:=Aj.1 hc;obtain⟨j,hj⟩:=Bb.1 hy;rw[AV] at hj;split at hj;·rename_i hji;have h1:=CX.1 ht.out;have kk:=(AE.1 hj).1;have kh:=(AE.1 hx).1;have:=h1 j i (by simpa using kk) (by simpa using kh) hji;simp only[List.getElem_map] at this;rw[(AE.1 hj).2,(AE.1 hx).2] at this;exact this he
    ·cases hj
   obtain⟨W6,z2,k8,hh⟩:=hp.put x.2.low x.1 h4;have HI:Hid (Below w.heap.size w W6):=(bx hB.out I).trans (hh.below (fun y hy=>by rw[AF.1 hy];exact AG _) (bx hB.out I).size);have ho:(down.take (i+1)).map lowAt=(down.take i).map lowAt++[(x.2.low,x.1)]:=by rw[Ai,hx];simp[lowAt]
   have ky:Hid (MapU W6 w.heap.size ((down.take (i+1)).map lowAt)):=by rw[ho];exact k8
   have kd:Hid (Blk W6 (w.heap.size+1) 301 #[.map (some w.heap.size)]):=hh.blk h8 (by simp);have L:=hid hlt;clear hx I k5 h8 hp h4 k8 hh ho hlt hi;go_wp2;go_roundw;case rel=>exact⟨i+1,L.out,by go_num,HI,ky,kd⟩
   case measure=>simp[intOf];have:=L.out;omega
  ·obtain rfl:i=dn:=by omega
   have i1: ¬(i:Int)< (i:Int):=by omega
   have hm:(down.take i).map lowAt=down.map lowAt:=by rw[AY (by have:=hz.out;omega)]
   have ha:=hM.out;rw[hm] at ha;have kt:=hid ha;have ki:=hid (show((down.map lowAt).map (·.1)).Nodup by rw[BU];exact ht.out);clear hm ha hlt hi;go_wp2;obtain⟨wA,rfl⟩:∃x,x=wr:=⟨_,rfl⟩;go_loopw [11,13,31,46] (fun kz kq iv z3 h5=> ∃j:Nat,j<=un/\iv= .int .i64 j/\Hid (Below wA.heap.size wA h5)/\Hid (∀i',i'<j-> ∀e∈z6w up i',hitI down e)) (fun _ _ iv _ _=>un- (intOf iv).toNat);case atStart=>exact⟨0,Af _,rfl,Below.refl _ _,fun i' h=>absurd h (BP _)⟩
   case round=>
    obtain⟨h5,rfl⟩:∃x,x=wr:=⟨_,rfl⟩;obtain⟨j,hj,rfl,hf,hA⟩:=hrel;have j0:(0:Int)<=(j:Int):=by omega
    by_cases hlt:j<un
    ·have j1:(j:Int)< (un:Int):=by omega
     obtain⟨x,hx⟩:∃x,up[j]?=some x:=⟨_,AD (by have:=h6.out;omega)⟩;obtain⟨g,rfl,ld1⟩:=HU.out.ld (bx hB.out hf.out) hx;obtain⟨W5,kb,k5,I⟩:=z1d h5 x.2 x.1 (q2a up j) (hasI up j);have d1:W5.cell? ⟨h5.heap.size,1,none⟩=some (.int .u64 x.2.low):=k5.cell 1;have d4:W5.cell? ⟨h5.heap.size,4,none⟩=some (.int .u64 x.2.fi):=k5.cell 4;have ke:=z5z (i:=0) k5 (fun j v hv=>by rw[AQ,Az];exact hv);have h7:=bx hf.out I;have LD:=fun W' (hb:Below W5.heap.size W5 W') (low a:Int)=>v6j (w.heap.size+1) w.heap.size (down.map lowAt) ki.out low a W' (((hK.out.bel h7).bel hb).cell 0) ((kt.out.bel h7).bel hb);have hs:=hid LD;have HX:=hid (⟨hx,h7⟩:_/\_);have AC:=hid (z6p x.2 x.1 (q2a up j) (hasI up j) W5);have L:=hid hlt;clear hx h7 LD k5 I hlt hj;go_wp2_with fail;refine(hs.out W5 (Below.refl _ _) _ _).mono ?_;rintro e w6 ⟨rfl,(⟨hit,rfl⟩|⟨hk,rfl⟩)⟩
     ·have ko:=hid hit;clear hit;go_wp2_with fail;refine AC.out.mono ?_;rintro e w7 ⟨v,rfl,hE⟩;obtain⟨l,hl⟩:∃l,l=q1n x.2 (q2a up j) (hasI up j):=⟨_,rfl⟩;rw[<- hl] at hE;obtain⟨n,hn⟩:∃n,n=l.length:=⟨_,rfl⟩
      have z5:n<=8:=by
       have h1:=Ao (actE (q2a up j) (hasI up j)) (q0r x.2);have h2:=q3j x.2;have h3:l.length=((q0r x.2).filter (actE (q2a up j) (hasI up j))).length:=by rw[hl];rfl
       omega
      obtain⟨va,vc,he,M⟩:=hE.ents;rw[<- hn] at he;subst he;have HE:=hid (⟨hE.bel,M,hl,hn⟩:_/\_/\_/\_);clear hE M hl hn AC ke ld1 kb;go_wp2;go_loopw [13,46] (fun kq qv O=> ∃q:Nat,q<=n/\qv= .int .i64 q/\Hid (Below w7.heap.size w7 O)/\Hid (∀q' e,q'<q->l[q']?=some e->hitI down e)) (fun _ qv _=>n- (intOf qv).toNat);case atStart=>exact⟨0,Af _,rfl,Below.refl _ _,fun q' e h=>absurd h (BP _)⟩
      case round=>
       obtain⟨O,rfl⟩:∃x,x=wr:=⟨_,rfl⟩;obtain⟨q,hq,rfl,Y,k0⟩:=hrel;have q0:(0:Int)<=(q:Int):=by omega
       by_cases hqn:q<n
       ·have q1:(q:Int)< (n:Int):=by omega
        obtain⟨y,hy⟩:∃y,l[q]?=some y:=⟨_,AD (by have:=HE.out.2.2.2;omega)⟩;obtain⟨b,off,kj,hbl,M⟩:=HE.out.2.1.resolve_left (fun e=>by rw[e] at hy;simp at hy);subst kj;have y1:O.cell? ⟨b,off+q*2,none⟩=some (.int .u64 y.1):=(Y.out.cell (p:=⟨b,off+q*2,none⟩) hbl).trans (M q y hy).1;have y2:O.cell? ⟨b,off+q*2+1,none⟩=some (.int .u64 y.2):=(Y.out.cell (p:=⟨b,off+q*2+1,none⟩) hbl).trans (M q y hy).2;have U:=bx HE.out.1 Y.out;have LQ:=hid (hs.out (O.alloc (.cells #[.int .u64 y.1,.int .u64 y.2] 166)) (ba U _) y.1 y.2);have k4:=hid (ba Y.out (.cells #[.int .u64 y.1,.int .u64 y.2] 166));have HY:=hid hy;have kc:=hid hqn;clear hbl M hy U hqn hq;go_wp2_with fail;refine LQ.out.mono ?_;rintro e w8 ⟨rfl,(⟨hit,rfl⟩|⟨hk,rfl⟩)⟩
        ·have kx:Hid (∀q' e,q'<q+1->l[q']?=some e->hitI down e):=by
          intro q' e h1 h2;by_cases hqq:q'=q;·subst hqq;rw[HY.out] at h2;injection h2 with h2;subst h2;exact z5s.2 hit
          ·exact k0.out q' e (by omega) h2
         clear hit;go_wp2;go_roundw;case rel=>exact⟨q+1,kc.out,by go_num,k4,kx⟩
         case measure=>simp[intOf];have:=kc.out;omega
        ·refine⟨rfl,?_,Or.inr ⟨?_,rfl⟩⟩;·exact(bx hB.out HX.out.2).trans ((bx HE.out.1 k4.out).mono (bx hB.out HX.out.2).size)
         ·refine x1j (j:=j) (by have:=L.out;have:=h6.out;omega) (e:=y) ?_ hk;rw[q9x HX.out.1,<- HE.out.2.2.1];exact AW _ (AJ HY.out)
       ·obtain rfl:q=n:=by omega
        have q1: ¬(q:Int)< (q:Int):=by omega
        have kr:Hid (∀i',i'<j+1-> ∀e∈z6w up i',hitI down e):=by
         intro i' h1 e he;by_cases hij:i'=j
         ·subst hij;rw[q9x HX.out.1,<- HE.out.2.2.1] at he;rcases AN.1 he with h|h;·rw[h];exact z5s.2 ko.out
          ·obtain⟨q',k9⟩:=Bb.1 h;exact k0.out q' e (by have:=(AE.1 k9).1;have:=HE.out.2.2.2;omega) k9
         ·exact hA.out i' (by omega) e he
        have kg:Hid (Below wA.heap.size wA O):=HX.out.2.trans ((bx HE.out.1 Y.out).mono HX.out.2.size);clear hqn hq;go_wp2;go_roundw;case rel=>exact⟨j+1,L.out,by go_num,kg,kr⟩
        case measure=>simp[intOf];have:=L.out;omega
     ·refine⟨rfl,(bx hB.out HX.out.2),Or.inr ⟨x1j (j:=j) (by have:=L.out;have:=h6.out;omega) (e:=(x.2.low,x.2.fi)) (by rw[q9x HX.out.1];exact Ae ..) hk,rfl⟩⟩
    ·obtain rfl:j=un:=by omega
     have j1: ¬(j:Int)< (j:Int):=by omega
     have km:=hid (show q4c up down from fun i' z4 e he=>hA.out i' (by have:=h6.out;omega) e he);clear hlt hj;go_wp2;refine bodyPost_end (v:= .tuple #[]) (by simp[results,Tryz.results153,go_sem]) rfl ?_;exact⟨bx hB.out hf.out,Or.inl ⟨km.out,rfl⟩⟩
end
def blkN (bs:List Int) (a:Int):List Nat:=((q5g bs).drop (a/8).toNat).take (8*(clsI bs a).toNat)
def v1b (bs:List Int) (R:List Int) (e:Int×Int) (s:ByteArray):Prop:=e.2∉R/\(clsI bs e.2=1\/clsI bs e.2=2)/\q2m (clsI bs e.2) (blkN bs e.2)= .tuple #[.string s,.int .i64 0]
def q4m (bs:List Int):List Int->List (Int×Int)->List (Int×ByteArray)->Prop
 | _,[],ps=>ps=[]
 | R,e::es,ps=> ∃s ps',v1b bs R e s/\ps=(e.1,s)::ps'/\q4m bs (R++[e.2]) es ps'
structure VTo (bs:List Int) (R:List Int) (es done:List (Int×Int)) (ps:List (Int×ByteArray)) (rest:List (Int×Int)):Prop where
 all:es=done++rest
 iff:∀qs,q4m bs R es qs↔ ∃qs',qs=ps++qs'/\q4m bs (R++done.map (·.2)) rest qs'
 len:ps.length=done.length
theorem VTo.start (bs:List Int) (R:List Int) (es:List (Int×Int)):VTo bs R es [] [] es:=⟨rfl,fun qs=>by simp,rfl⟩
theorem z4k {v:Value} {s s':ByteArray} (h:v= .tuple #[.string s,.int .i64 0]) (h':v= .tuple #[.string s',.int .i64 0]):s=s':=by rw[h] at h';injection h' with h';have:=congrArg (fun a:Array Value=>a[0]?) h';simp at this;exact this
theorem VTo.next {bs:List Int} {R:List Int} {es done rest:List (Int×Int)} {ps:List (Int×ByteArray)} {e:Int×Int} {s:ByteArray} (h:VTo bs R es done ps (e::rest)) (hs:v1b bs (R++done.map (·.2)) e s):VTo bs R es (done++[e]) (ps++[(e.1,s)]) rest:=by
 refine⟨by rw[h.all];simp,fun qs=> ?_,by simp[h.len]⟩;rw[h.iff];have hR:R++(done++[e]).map (·.2)=R++done.map (·.2)++[e.2]:=by simp
 rw[hR];constructor;·rintro⟨I,rfl,s',L,h1,rfl,h2⟩;have:=z4k h1.2.2 hs.2.2;subst this;exact⟨L,by simp,h2⟩
 ·rintro⟨I,rfl,h2⟩;exact⟨(e.1,s)::I,by simp,s,I,hs,rfl,h2⟩
theorem VTo.no {bs:List Int} {R:List Int} {es done rest:List (Int×Int)} {ps:List (Int×ByteArray)} {e:Int×Int} (h:VTo bs R es done ps (e::rest)) (hs:∀s,¬v1b bs (R++done.map (·.2)) e s):∀qs,¬q4m bs R es qs:=by intro qs hq;obtain⟨L,_,s,I,h1,_⟩:=(h.iff qs).1 hq;exact hs s h1
theorem VTo.done {bs:List Int} {R:List Int} {es d:List (Int×Int)} {ps:List (Int×ByteArray)} (h:VTo bs R es d ps []):q4m bs R es ps/\d=es:=⟨(h.iff ps).2 ⟨[],by simp,rfl⟩,by rw[h.all];simp⟩
def allE (row:List (Int×NodeA)):List (Int×Int):=(List.range row.length).flatMap (actI row)
theorem q5n.only {W W':World} {N:Nat} {v:Value} {row:List (Int×NodeA)} {f:List Nat} (h:q5n W N v row) (ho:Only f W W') (hf:∀k∈f,W.heap.size<=k\/ ∀cs fr,W.heap[k]?≠some (.cells cs 196 fr)):q5n W' N v row:=by
 refine ho.own h (fun k hk hm=> ?_);obtain⟨_,cs,hc⟩:=q0l h k hk;rcases hf k hm with h1|h1;·have:=(AA.1 hc).1;omega
 ·exact h1 _ _ hc
def q5v (p:Int×ByteArray):List Value:=[.int .u64 p.1,.string p.2]
structure q9k (W:World) (N:Nat) (B:LkP) (pr:Value) (ps:List (Int×ByteArray)):Prop where
 own:W.ownsRow N 48 2 pr ps.length (ps.flatMap q5v)
 apart:∀k,pr.ownBlock=some k->k≠B.lb/\k≠B.wb/\k≠B.hb/\k≠B.mb
theorem z4t:(Tryz.prog.info? 48).map (fun i=>(i.zero,i.size,i.bytes))=some (some (.agg #[.int .u64 0,.string { data:= #[] }]),2,24):=by kernel_rfl
theorem x1i {W:World} {N:Nat} {B:LkP} {bs:List Int} {root:Int} {lv pr:Value} {R:List Int} {ps:List (Int×ByteArray)} (key:Int) (s:ByteArray) (hL:q1j W N B bs root lv pr R) (hP:q9k W N B pr ps) (hN:N<=W.heap.size) (h6:ps.length<=1000000):
  ∃va vc w9,q0n Tryz.prog #[29,29] 29 #[pr,.slice (some ⟨W.heap.size,0,none⟩) 1 1] ((W.alloc (.cells #[.int .u64 key,.string s] 48)).drew)= .ok (.slice va (ps.length+1) vc) w9/\w9.cell? ⟨B.lb,5,none⟩=some pr/\w9.frozen? ⟨B.lb,5,none⟩=false/\
   q1j (w9.setCell ⟨B.lb,5,none⟩ (.slice va (ps.length+1) vc)) N B bs root lv (.slice va (ps.length+1) vc) R/\q9k (w9.setCell ⟨B.lb,5,none⟩ (.slice va (ps.length+1) vc)) N B (.slice va (ps.length+1) vc) (ps++[(key,s)])/\Only (B.lb::pr.ownBlock.toList) W (w9.setCell ⟨B.lb,5,none⟩ (.slice va (ps.length+1) vc))/\((Value.slice va (ps.length+1) vc).ownBlock=pr.ownBlock\/ ∃k,(Value.slice va (ps.length+1) vc).ownBlock=some k/\W.heap.size<=k):=by
 obtain⟨i0,h5,h2,h4,h3⟩:=info_parts z4t;have q2:=hP.own;have Y:((W.alloc (.cells #[.int .u64 key,.string s] 48)).drew).ownsRow N 48 2 pr ps.length (ps.flatMap q5v):=(((Only.refl [] W).alloc _).drew).own q2 (by simp);obtain⟨v',w9,hA⟩:=q2b (P:=Tryz.prog) ((W.alloc (.cells #[.int .u64 key,.string s] 48)).drew) N 29 29 48 i0 _ 2 24 Tryz.underlying29 h5 h2 h4 h3 rfl (by decide) pr ps.length _ Y (.slice (some ⟨W.heap.size,0,none⟩) 1 1) 1 [.int .u64 key,.string s] (Or.inr ⟨W.heap.size,0,1,rfl,fun i u hi=>by rw[(Blk.new W 48 #[.int .u64 key,.string s]).drew.cell (0+i),AQ];simpa using hi⟩) rfl (fun u hu=>by simp at hu;rcases hu with rfl|rfl<;>rfl) (by unfold maxLen;omega) (by omega) (by simp;omega);have M:=hA.own;have h1:=hA.grown;have S:=hA.ob;obtain⟨va,vc,rfl⟩:=q0q M;have o9:Only pr.ownBlock.toList W w9:=((((Only.refl [] W).alloc _).drew).mono (fun _ h=>by cases h)).trans (Only.of_grown (f:=pr.ownBlock.toList) h1 (fun y hy=>by simp[hy])) (fun y hy=>Or.inl hy);have O:∀y,y∈pr.ownBlock.toList->y≠B.lb/\y≠B.wb/\y≠B.hb/\y≠B.mb:=fun y hy=>hP.apart y (by simpa[Option.mem_toList] using hy);have I:q1j w9 N B bs root lv pr R:=hL.only o9 (fun hm=>(O _ hm).1 rfl) (fun hm=>(O _ hm).2.1 rfl) (fun hm=>(O _ hm).2.2.1 rfl) (fun hm=>(O _ hm).2.2.2 rfl);have oS:Only [B.lb] w9 (w9.setCell ⟨B.lb,5,none⟩ (.slice va (ps.length+1) vc)):=(Only.refl _ _).setCell (Or.inl (by simp)) _;have U:=I.ne;have e5:((W.alloc (.cells #[.int .u64 key,.string s] 48)).drew).heap.size=W.heap.size+1:=World.size_alloc _ _
 have L:∀k,(Value.slice va (ps.length+1) vc).ownBlock=some k->k≠B.lb/\k≠B.wb/\k≠B.hb/\k≠B.mb:=by
  intro k hk;rcases S with h|h;·exact hP.apart k (h▸hk)
  ·rw[h] at hk;injection hk with hk;have e1:=hL.cells.lt;have e2:=hL.fix.words.1;have e3:=hL.fix.hlt;have e4:=hL.set.lt;omega
 refine⟨va,vc,w9,hA.run,I.cells.cell 5,I.cells.frozen 5,⟨I.cells.set_ 5 _,I.fix.only oS (by simp;omega) (by simp;omega),I.set.only oS (by simp;omega),I.ge,U⟩,⟨?_,L⟩,(o9.mono (fun _ h=>AW _ h)).trans oS (fun x hx=>Or.inl (by rw[AF.1 hx];exact Ae ..)),?_⟩;·have:=oS.own M (fun k hk hm=>(L k hk).1 (by simpa using hm));rw[AI,Bj,Al];simpa[q5v] using this
 ·rcases S with h|h;·exact Or.inl h
  ·exact Or.inr ⟨_,h,by omega⟩
section
attribute [local go_sem ↓ high] q0s q0f q0d q0v q5s q4e q5i q5x
attribute [local go_sem] q1x q1p q1v Oper.semAt_some q0h q2t q4g
theorem x2l {bs:List Int} {a c:Int} (h:clsI bs a=c) (hc:c=1\/c=2) (h0:0<=a) (hs:0<q0w bs.length):∃k:Nat,a=8*k/\k+8*c.toNat<=bs.length/8/\0<k:=by
 have hn:=q1s hs;unfold clsI at h;by_cases h1:q1q a=0\/q0w bs.length<q1q a;·rw[if_pos h1] at h;omega
 ·rw[if_neg h1] at h;by_cases h2:q1u bs (q1q a).toNat<=3/\idxB a (q1u bs (q1q a).toNat:Nat)=true
  ·rw[if_pos h2] at h;rw[h] at h2;have hi:=h2.2;unfold idxB at hi;have I:idxZ a c≠ -1:=by simpa using hi
   unfold idxZ at I;split at I
   ·rename_i hh;have hb:q0m 1=15:=by decide
    have L:q0m 2=7:=by decide
    unfold q1q at h1 hh;rcases hc with rfl|rfl
    ·rw[hb] at hh;refine⟨(a/8).toNat,?_,?_,?_⟩
     all_goals
      split at h1;·omega
      ·omega
    ·rw[L] at hh;refine⟨(a/8).toNat,?_,?_,?_⟩
     all_goals
      split at h1;·omega
      ·omega
   ·exact absurd rfl I
  ·rw[if_neg h2] at h;omega
theorem x7w {bs:List Int} (hb:∀x∈bs,0<=x/\x<256) {a:Int} {n:NodeA} (hn:q1y bs a=some n) {h:Int} {f:Bool} {e:Int×Int} (he:e∈q1n n h f):0<=e.2/\e.2<=18446744073709551615:=by unfold q1n q0r at he;have h1:=(Cg.1 he).1;obtain⟨i,_,rfl⟩:=Aj.1 h1;rw[(q6c hn).2];exact q4b hb a (9+2*i)
theorem z4d (c:Int) (l:List Nat):∃s e,q2m c l= .tuple #[.string s,.int .i64 e]:=by
 unfold q2m;split;·exact⟨_,_,rfl⟩
 ·split;·exact⟨_,_,rfl⟩
  ·split;·exact⟨_,_,rfl⟩
   ·split;·exact⟨_,_,rfl⟩
    ·exact q7b _ _
theorem z4h (n:NodeA) (h:Int) (f:Bool):(q1n n h f).length<=8:=by have h1:=Ao (actE h f) (q0r n);have h2:=q3j n;have h3:(q1n n h f).length=((q0r n).filter (actE h f)).length:=rfl;omega
theorem x9i {N:Nat} {B:LkP} {bs:List Int} (a:Int) (k:Nat) (c:Int) (S:clsI bs a=c) (hc:c=1\/c=2) (U:a=8*k) (hk:k+8*c.toNat<=bs.length/8) (w:World) (h:z5r w B bs) (L:8*c.toNat<=B.wc-k):
  Calls Tryz.prog 210 #[.int .i64 c,.slice (some ⟨B.wb,k,none⟩) (8*c.toNat) (B.wc-k)] w fun e w'=>e= .returned (q2m c (blkN bs a))/\Below w.heap.size w w':=by
 have hbl:blkN bs a=((q5g bs).drop k).take (8*c.toNat):=by unfold blkN;rw[S,show(a/8).toNat=k by omega]
 have I:(blkN bs a).length=8*c.toNat:=by rw[hbl,AU,At,q4w];omega
 cases hb:blkN bs a with
 | nil=>rw[hb] at I;simp at I;omega
 | cons n ns=>
  rw[hb] at I;refine v5a c hc n ns (by simpa using I) (fun x hx=> ?_) B.wb k _ _ rfl L w ?_;·rw[<- hb,hbl] at hx;obtain⟨j,hj⟩:=Bb.1 (Ak (Ab hx));have M:=(AE.1 hj).1;rw[q4w] at M;obtain⟨y,hy,_,O⟩:=q3l h.byte M;rw[hj] at hy;injection hy with hy;rw[hy];exact O
  ·rw[<- hb,hbl];have:=(h.words.drop k).take (8*c.toNat)
   rwa[AQ] at this
def v8w (N:Nat) (B:LkP) (bs:List Int) (root:Int) (lv:Value) (R:List Int) (leaves:List (Int×NodeA)) (w:World) (e:Ending) (w':World):Prop:=
 (∃ps pr,q4m bs R (allE leaves) ps/\e= .returned (.tuple #[])/\q1j w' N B bs root lv pr (R++(allE leaves).map (·.2))/\q9k w' N B pr ps/\Only [B.mb,B.lb] w w')\/
 ((∀ps,¬q4m bs R (allE leaves) ps)/\e= .panicked errC/\Only [B.mb,B.lb] w w')
theorem x8f (N:Nat) (B:LkP) (bs:List Int) (root:Int) (lv:Value) (R:List Int) (leaves:List (Int×NodeA)) (la:Option Addr) (ln lc:Nat) (q3:ln=leaves.length) (qn:ln<=100000) (w:World) (hL:q1j w N B bs root lv (.slice none 0 0) R) (ki:q5n w N (.slice la ln lc) leaves) (zt:∀x∈leaves,q1y bs x.1=some x.2) (hN:N<=w.heap.size):
  Calls Tryz.prog 154 #[.pointer (some ⟨B.lb,0,none⟩),.slice la ln lc] w (v8w N B bs root lv R leaves w):=by
 have zp:∀cs fr,w.heap[B.mb]?≠some (.cells cs 196 fr):=fun cs fr e=>by obtain⟨es,cl,q1,_⟩:=hL.set;rw[q1] at e;cases e
 have zn:∀cs fr,w.heap[B.lb]?≠some (.cells cs 196 fr):=fun cs fr e=>by have hb:w.heap[B.lb]?=_:=hL.cells;rw[hb] at e;injection e with e;injection e with _ e;cases e
 have h6:∀W,Only [B.mb,B.lb] w W->q5n W N (.slice la ln lc) leaves:=fun W ho=>ki.only ho (fun k hk=>Or.inr (by
  simp at hk;rcases hk with rfl|rfl;·exact zp
  ·exact zn))
 have HR:=hid h6;have km:=hid q3;have qc:=hid zt;have HW:=hid (⟨hL.cells.lt,hL.fix.words.1,hL.fix.hlt,hL.set.lt,hL.ne,hL.ge⟩:_/\_/\_/\_/\_/\_);have ky:=hid (⟨hL.fix.byte,hL.fix.some',hL.fix.nums,hL.fix.wc⟩:_/\_/\_/\_);have H0:=hid hL;have MY:=hid q4t;have MN:=hid q6f;obtain⟨rest,h3⟩:∃rest:Nat->List (Int×Int),rest=fun i=>((List.range leaves.length).drop i).flatMap (actI leaves):=⟨_,rfl⟩;have zs:rest 0=allE leaves:=by rw[h3];rfl
 have zr:∀i,i<leaves.length->rest i=actI leaves i++rest (i+1):=fun i hi=>by rw[h3];show((List.range leaves.length).drop i).flatMap _=_;rw[Au (by simpa using hi),Ap];simp
 have q2:rest leaves.length=[]:=by rw[h3];show((List.range leaves.length).drop leaves.length).flatMap _=_;rw[BO (by simp)];rfl
 have z9:=hid (⟨zs,zr,q2⟩:_/\_/\_);clear hL ki zt q3 zp zn h6 h3 zs zr q2;go_enter Tryz.func154,Tryz.ntmps154;go_wp2;go_loopw [5,7,8,9,10,13,20] (fun s5 s7 s8 s9 q9 iv qm wr=> ∃(i:Nat) (pr:Value) (ps:List (Int×ByteArray)) (done:List (Int×Int)),i<=ln/\iv= .int .i64 i/\Hid (VTo bs R (allE leaves) done ps (rest i)/\q1j wr N B bs root lv pr (R++done.map (·.2))/\q9k wr N B pr ps/\Only [B.mb,B.lb] w wr/\(∀k,pr.ownBlock=some k->w.heap.size<=k)/\ps.length<=8*i)) (fun _ _ _ _ _ iv _ _=>ln- (intOf iv).toNat);case atStart=>exact⟨0,_,[],[],Af _,rfl,⟨by rw[z9.out.1];exact VTo.start _ _ _,by simpa using H0.out,⟨World.ownsRow_nil _ _ _ _,fun k hk=>by simp[Value.ownBlock] at hk⟩,Only.refl _ _,fun k hk=>by simp[Value.ownBlock] at hk,AG _⟩⟩
 case round=>
  obtain⟨i,pr,ps,done,hi,rfl,hI⟩:=hrel;obtain⟨wA,rfl⟩:∃x,x=wr:=⟨_,rfl⟩;have qf:Hid (∀k,pr.ownBlock=some k->k<wA.heap.size):=fun k hk=>by obtain⟨_,cs,hc⟩:=q0l hI.out.2.2.1.own k hk;exact(AA.1 hc).1
  have i0:(0:Int)<=(i:Int):=by omega
  by_cases hlt:i<ln
  ·have i1:(i:Int)< (ln:Int):=by omega
   obtain⟨x,hx⟩:∃x,leaves[i]?=some x:=⟨_,AD (by have:=km.out;omega)⟩;have q4:=qc.out x (AJ hx);obtain⟨g,rfl,ld1⟩:=(HR.out wA hI.out.2.2.2.1).ld (Below.refl _ _) hx;obtain⟨W5,qj,k5,zk⟩:=z1d wA x.2 x.1 (q2a leaves i) (hasI leaves i);have q6:=z5z (i:=0) k5 (fun j v hv=>by rw[AQ,Az];exact hv);have AC:=hid (z6p x.2 x.1 (q2a leaves i) (hasI leaves i) W5);obtain⟨l,hl⟩:∃l,l=q1n x.2 (q2a leaves i) (hasI leaves i):=⟨_,rfl⟩;have zi:actI leaves i=l:=by unfold actI;rw[hx,hl];rfl
   have zl:∀e∈l,0<=e.2/\e.2<=18446744073709551615:=fun e he=>x7w ky.out.1 q4 (by rw[<- hl];exact he);obtain⟨n,hn⟩:∃n,n=l.length:=⟨_,rfl⟩;have qo:n<=8:=by rw[hn,hl];exact z4h _ _ _
   have HX:=hid (⟨zk,zi,zl,hn⟩:_/\_/\_/\_);have zg:=hid hlt;have z8:=AC.out;rw[<- hl] at z8;have AC:=hid z8;clear hx q4 hlt hi k5 zk hl zi zl hn z8;go_wp2_with fail;refine AC.out.mono ?_;rintro e w7 ⟨v,rfl,hE⟩;obtain⟨va,vc,he,kc⟩:=hE.ents;rw[<- HX.out.2.2.2] at he;subst he;have HE:=hid (⟨bx HX.out.1 hE.bel,kc,hE.new⟩:_/\_/\_);clear hE kc AC q6 ld1 qj;go_wp2;go_loopw [7,8,9,10,20] (fun s7 s8 s9 q9 qv wr=> ∃(q:Nat) (L:Value) (O:List (Int×ByteArray)) (I:List (Int×Int)),q<=n/\qv= .int .i64 q/\Hid (VTo bs R (allE leaves) I O (l.drop q++rest (i+1))/\q1j wr N B bs root lv L (R++I.map (·.2))/\q9k wr N B L O/\Only [B.mb,B.lb] w wr/\(∀k,L.ownBlock=some k->w.heap.size<=k)/\O.length<=8*i+q/\Only (B.mb::B.lb::pr.ownBlock.toList) w7 wr/\(L.ownBlock=pr.ownBlock\/ ∃k,L.ownBlock=some k/\w7.heap.size<=k))) (fun _ _ _ _ qv _=>n- (intOf qv).toNat);case atStart=>refine⟨0,pr,ps,done,Af _,rfl,?_⟩;have hz:=hI.out;have hb:=HE.out.1;refine⟨?_,hz.2.1.bel hb,⟨(Only.of_below hb []).own hz.2.2.1.own (by simp),hz.2.2.1.apart⟩,hz.2.2.2.1.trans (Only.of_below hb []) (fun _ h=>by cases h),hz.2.2.2.2.1,by have:=hz.2.2.2.2.2;omega,Only.refl _ _,Or.inl rfl⟩;rw[CW,<- HX.out.2.1,<- z9.out.2.1 i (by have:=zg.out;have:=km.out;omega)];exact hz.1
   case round=>
    obtain⟨q,L,O,I,hq,rfl,hJ⟩:=hrel;obtain⟨wB,rfl⟩:∃x,x=wr:=⟨_,rfl⟩;have q0:(0:Int)<=(q:Int):=by omega
    by_cases hqn:q<n
    ·have q1:(q:Int)< (n:Int):=by omega
     obtain⟨y,hy⟩:∃y,l[q]?=some y:=⟨_,AD (by have:=HX.out.2.2.2;omega)⟩;have zm:=HX.out.2.2.1 y (AJ hy);obtain⟨b,off,qb,hbl,kc⟩:=HE.out.2.1.resolve_left (fun e=>by rw[e] at hy;simp at hy);subst qb;have qd:W5.heap.size<=b:=HE.out.2.2 b rfl;have z7:=HX.out.1.size;have zz:=qf.out
     have h7:b∉B.mb::B.lb::pr.ownBlock.toList:=by
      intro hm;have h1:=HW.out;have h2:=hI.out.2.2.2.1.size;rcases AN.1 hm with e|e;·omega
      ·rcases AN.1 e with e|e;·omega
       ·have:=zz b (by simpa[Option.mem_toList] using e);omega
     have y1:wB.cell? ⟨b,off+q*2,none⟩=some (.int .u64 y.1):=(hJ.out.2.2.2.2.2.2.1.cell (p:=⟨b,off+q*2,none⟩) hbl h7).trans (kc q y hy).1;have y2:wB.cell? ⟨b,off+q*2+1,none⟩=some (.int .u64 y.2):=(hJ.out.2.2.2.2.2.2.1.cell (p:=⟨b,off+q*2+1,none⟩) hbl h7).trans (kc q y hy).2;have zo:l.drop q++rest (i+1)=y::(l.drop (q+1)++rest (i+1)):=by have q7:=(AE.1 hy).1;rw[Au q7,(AE.1 hy).2];rfl
     have hV:=hJ.out.1;rw[zo] at hV;obtain⟨R2,q5⟩:∃R2,R2=R++I.map (·.2):=⟨_,rfl⟩;obtain⟨W1,z2⟩:∃W1,W1=wB.alloc (.cells #[.int .u64 y.1,.int .u64 y.2] 166):=⟨_,rfl⟩;have zb:Below wB.heap.size wB W1:=by rw[z2];exact ba (Below.refl _ _) _
     have kt:Blk W1 wB.heap.size 166 #[.int .u64 y.1,.int .u64 y.2]:=by rw[z2];exact Blk.new _ _ _
     have ze:=hJ.out.2.1.bel zb;rw[<- q5] at ze;have x0:W1.cell? ⟨wB.heap.size,0,none⟩=some (.int .u64 y.1):=kt.cell 0;have x1:W1.cell? ⟨wB.heap.size,1,none⟩=some (.int .u64 y.2):=kt.cell 1;have HV:=hid (⟨hV,zm,q5⟩:_/\_/\_);have zx:=hid z2;have S:=hid (⟨zb,kt,ze⟩:_/\_/\_);have kd:=hid hqn;clear hy zm hbl kc qd z7 zz h7 zo hV hqn hq zb kt ze;by_cases hin:y.2∈R2;·have TK:=hid (x1d N B bs root lv L R2 y.2 hin W1 S.out.2.2);have k3:=hid (HV.out.1.no (fun s h=>h.1 (by rw[<- HV.out.2.2];exact hin)));clear hin;go_wp2_with fail;rw[<- zx.out];refine TK.out.mono ?_;rintro e w2 ⟨rfl,qe⟩;exact⟨rfl,Or.inr ⟨k3.out,rfl,hJ.out.2.2.2.1.trans (Only.of_below (bx S.out.1 qe) []) (fun _ h=>by cases h)⟩⟩
     ·have TK:=hid (z6e N B bs root lv L R2 y.2 hin W1 S.out.2.2);have zy:=hid hin;clear hin;go_wp2_with fail;rw[<- zx.out];refine TK.out.mono ?_;rintro e w2 ⟨rfl,hs,zc⟩;have u1:w2.cell? ⟨wB.heap.size,1,none⟩=some (.int .u64 y.2):=(zc.blk S.out.2.1 (by have:=HW.out;have:=hJ.out.2.2.2.1.size;simp;omega)).cell 1;have kj:=hid (z4o B bs root lv L y.2 HV.out.2.1 w2 hs.fix hs.cells);have H2:=hid (⟨hs,zc⟩:_/\_);obtain⟨c,hc⟩:∃c,c=clsI bs y.2:=⟨_,rfl⟩;have kb:=kj.out;rw[<- hc] at kb;have kj:=hid kb;have HC:=hid hc;clear hs zc x0 x1 kb hc y1 y2;by_cases h12:c=1\/c=2
      ·obtain⟨k,z6,hk,qk⟩:=x2l HC.out.symm h12 HV.out.2.1.1 ky.out.2.1;have qh:=ky.out.2.2.1;have zq:=ky.out.2.2.2;have BL:=hid (fun W (kz:q1j W N B bs root lv L (R2++[y.2]))=>z5m B.lb B.wb (bs.length/8) B.wc c (by omega) y.2 k z6 hk (by omega) zq W (kz.cells.cell 0));obtain⟨s,ev,z1⟩:=z4d c (blkN bs y.2);have PA:=hid (fun W (kz:q1j W N B bs root lv L (R2++[y.2]))=>x9i (N:=N) y.2 k c HC.out.symm h12 z6 hk W kz.fix (by omega));have ko:=PA.out;rw[z1] at ko;have PA:=hid ko;have kx:=hid z1;obtain⟨m8,zj⟩:∃m8,m8=8*c.toNat:=⟨_,rfl⟩;have z4:=BL.out;rw[<- zj] at z4 ko;have BL:=hid z4;have PA:=hid ko;have FI:=hid (z3i ev);have zv:=hid h12;clear z6 hk qk qh zq z1 ko z4 zj
       have ql:((c==1)=true)\/((c==1)=false/\(c==2)=true):=by
        rcases h12 with h|h;·left;simp[h]
        ·right;constructor;·simp[h]
         ·simp[h]
       clear h12;rcases ql with t1|⟨t1,t2⟩
       ·go_wp2_with fail;refine kj.out.mono ?_;rintro e w3 ⟨rfl,h4⟩;have kq:=H2.out.1.bel h4;have v0:w3.cell? ⟨wB.heap.size,0,none⟩=some (.int .u64 y.1):=((H2.out.2.blk S.out.2.1 (by have:=HW.out;have:=hJ.out.2.2.2.1.size;simp;omega)).bel h4).cell 0;have v1:w3.cell? ⟨wB.heap.size,1,none⟩=some (.int .u64 y.2):=((H2.out.2.blk S.out.2.1 (by have:=HW.out;have:=hJ.out.2.2.2.1.size;simp;omega)).bel h4).cell 1;have kk:=hid kq;have hp:=hid h4;clear kq h4;go_wp2_with fail;refine(MY.out w3).mono ?_;rintro e w4 ⟨rfl,rfl⟩;go_wp2_with fail;refine(BL.out w3 kk.out).mono ?_;rintro e w4 ⟨rfl,ht⟩;have kf:=hid (kk.out.bel ht);have za:=hid ht;clear ht;go_wp2_with fail;refine(PA.out w4 kf.out).mono ?_;rintro e w5 ⟨rfl,U⟩;have k8:=hid (bx za.out U);have k1:=hid (kf.out.bel U);clear U;go_wp2_with fail;refine(FI.out w5).mono ?_;rintro e w6 ⟨rfl,rfl⟩;have h5:Only [B.mb,B.lb] w w5:=((hJ.out.2.2.2.1.trans (Only.of_below S.out.1 []) (fun _ h=>by cases h)).trans (H2.out.2.mono (by simp)) (fun _ h=>Or.inl h)).trans (Only.of_below (bx hp.out k8.out) []) (fun _ h=>by cases h);have hr:=hid h5;clear h5;by_cases hev:ev=0
        ·rw[AT hev];have zd:=hid (HV.out.1.next (s:=s) ⟨by rw[<- HV.out.2.2];exact zy.out,by rw[<- HC.out];exact zv.out,by rw[<- HC.out,kx.out,hev]⟩);have hj:Only [B.mb] wB w5:=((Only.of_below S.out.1 [B.mb]).trans H2.out.2 (fun _ h=>Or.inl h)).trans (Only.of_below (bx hp.out k8.out) []) (fun _ h=>by cases h);have kn:q9k w5 N B L O:=⟨hj.own hJ.out.2.2.1.own (fun k hk hm=>(hJ.out.2.2.1.apart k hk).2.2.2 (by simpa using hm)),hJ.out.2.2.1.apart⟩;have kr:N<=w5.heap.size:=AH hN hr.out.size;obtain⟨pa,pc,w9,Y,z5,qg,hh,hg,h9,M⟩:=x1i y.1 s k1.out kn kr (by have:=hJ.out.2.2.2.2.2.1;have:=km.out;have:=kd.out;omega);obtain⟨pn,kh⟩:∃pn,pn=O.length+1:=⟨_,rfl⟩;rw[<- kh] at Y hh hg h9 M;obtain⟨W9,k4⟩:∃W9,W9=w9.setCell ⟨B.lb,5,none⟩ (.slice pa pn pc):=⟨_,rfl⟩;rw[<- k4] at hh hg h9;have g5:w5.cell? ⟨B.lb,5,none⟩=some L:=k1.out.cells.cell 5;have qa:w5.drew.cell? ⟨B.lb,5,none⟩=some L:=g5;have qi:(w5.alloc (.cells #[.int .u64 y.1,.string s] 48)).drew.cell? ⟨B.lb,5,none⟩=some L:=(k1.out.cells.alloc _).cell 5;have kp:=(H2.out.2.blk S.out.2.1 (by have:=HW.out;have:=hJ.out.2.2.2.1.size;simp;omega)).bel (bx hp.out k8.out);have k0:w5.cell? ⟨wB.heap.size,0,none⟩=some (.int .u64 y.1):=kp.cell 0;have q8:w5.drew.cell? ⟨wB.heap.size,0,none⟩=some (.int .u64 y.1):=k0;have k9:=hid Y;have zh:=hJ.out.2.2.2.2.2.1;have k7:wB.heap.size<=w5.heap.size:=hj.size
         have ha:∀k,(Value.slice pa pn pc).ownBlock=some k->w.heap.size<=k:=by
          intro k hk;rcases M with h|⟨k',h1,h2⟩;·exact hJ.out.2.2.2.2.1 k (h▸hk)
          ·rw[h1] at hk;injection hk with hk;have:=hr.out.size;omega
         have kg:Only (B.mb::B.lb::pr.ownBlock.toList) w7 W9:=by
          refine(hJ.out.2.2.2.2.2.2.1.trans (hj.mono (g:=B.mb::B.lb::pr.ownBlock.toList) (by simp)) (fun _ h=>Or.inl h)).trans h9 (fun y hy=> ?_);rcases AN.1 hy with e|e;·left;rw[e];simp
          ·have e':L.ownBlock=some y:=by simpa[Option.mem_toList] using e
           rcases hJ.out.2.2.2.2.2.2.2 with h|⟨k',h1,h2⟩;·left;rw[h] at e';simp[e']
           ·right;rw[h1] at e';injection e' with e';omega
         have ke:(Value.slice pa pn pc).ownBlock=pr.ownBlock\/ ∃k,(Value.slice pa pn pc).ownBlock=some k/\w7.heap.size<=k:=by
          rcases M with h|⟨k',h1,h2⟩;·rw[h];exact hJ.out.2.2.2.2.2.2.2
          ·exact Or.inr ⟨k',h1,by have:=hJ.out.2.2.2.2.2.2.1.size;omega⟩
         have hf:Only [B.mb,B.lb] w W9:=hr.out.trans h9 (fun y hy=>by
          rcases AN.1 hy with e|e;·left;rw[e];simp
          ·right;exact hJ.out.2.2.2.2.1 y (by simpa[Option.mem_toList] using e))
         have h8:q1j W9 N B bs root lv (.slice pa pn pc) (R++(I++[y]).map (·.2)):=by
          have e:R++(I++[y]).map (·.2)=R2++[y.2]:=by rw[HV.out.2.2];simp
          rw[e];exact hh
         have zf:=hid (⟨zd.out,h8,hg,hf,ha,by rw[AI];simp;omega,kg,ke⟩:VTo bs R (allE leaves) (I++[y]) (O++[(y.1,s)]) (l.drop (q+1)++rest (i+1))/\q1j W9 N B bs root lv (.slice pa pn pc) (R++(I++[y]).map (·.2))/\q9k W9 N B (.slice pa pn pc) (O++[(y.1,s)])/\Only [B.mb,B.lb] w W9/\(∀k,(Value.slice pa pn pc).ownBlock=some k->w.heap.size<=k)/\(O++[(y.1,s)]).length<=8*i+(q+1)/\Only (B.mb::B.lb::pr.ownBlock.toList) w7 W9/\((Value.slice pa pn pc).ownBlock=pr.ownBlock\/ ∃k,(Value.slice pa pn pc).ownBlock=some k/\w7.heap.size<=k));have z0:=hid k4;clear hj kn kr Y hh hg h9 M k4 kp zh k7 ha kg ke hf h8 hev kh u1 v0 v1;go_wp2_with fail;refine(MY.out w5).mono ?_;rintro e w6 ⟨rfl,rfl⟩;go_wp2_with fail;refine Code.wp_mono (Q:=q5y _) q5y.imp ?_;refine z1q (X:= ?X) (fun key=> ?_) ?_
         rotate_left
         ·go_region_law (refine q1k rfl (.tmp 56) (.tmp 61) 29 29 rfl _ _ (by simp[Act.eval,Act.put]) (by simp[Act.eval,Act.put]) k9.out ?_)
          all_goals
           try go_simp
           try simp only[Act.put,List.setIfInBounds_toArray,List.set_cons_zero,List.set_cons_succ]
           exact key.out
         refine q5y.normal ?_;rw[<- z0.out];go_wp2;go_roundw;case rel=>exact⟨q+1,_,_,_,kd.out,by go_num,zf⟩
         case measure=>simp[intOf];have:=kd.out;omega
        ·rw[AK hev];have k3:=hid (HV.out.1.no (fun s' h=>hev (by have:=h.2.2;rw[<- HC.out,kx.out] at this;injection this with this;have:=congrArg (fun a:Array Value=>a[1]?) this;simpa using this)));clear hev;go_wp2_with fail;refine(MN.out w5).mono ?_;rintro e w6 ⟨rfl,rfl⟩;exact⟨rfl,Or.inr ⟨k3.out,rfl,hr.out⟩⟩
       ·go_wp2_with fail;refine kj.out.mono ?_;rintro e w3 ⟨rfl,h4⟩;have kq:=H2.out.1.bel h4;have v0:w3.cell? ⟨wB.heap.size,0,none⟩=some (.int .u64 y.1):=((H2.out.2.blk S.out.2.1 (by have:=HW.out;have:=hJ.out.2.2.2.1.size;simp;omega)).bel h4).cell 0;have v1:w3.cell? ⟨wB.heap.size,1,none⟩=some (.int .u64 y.2):=((H2.out.2.blk S.out.2.1 (by have:=HW.out;have:=hJ.out.2.2.2.1.size;simp;omega)).bel h4).cell 1;have kk:=hid kq;have hp:=hid h4;clear kq h4;go_wp2_with fail;refine(MY.out w3).mono ?_;rintro e w4 ⟨rfl,rfl⟩;go_wp2_with fail;refine(BL.out w3 kk.out).mono ?_;rintro e w4 ⟨rfl,ht⟩;have kf:=hid (kk.out.bel ht);have za:=hid ht;clear ht;go_wp2_with fail;refine(PA.out w4 kf.out).mono ?_;rintro e w5 ⟨rfl,U⟩;have k8:=hid (bx za.out U);have k1:=hid (kf.out.bel U);clear U;go_wp2_with fail;refine(FI.out w5).mono ?_;rintro e w6 ⟨rfl,rfl⟩;have h5:Only [B.mb,B.lb] w w5:=((hJ.out.2.2.2.1.trans (Only.of_below S.out.1 []) (fun _ h=>by cases h)).trans (H2.out.2.mono (by simp)) (fun _ h=>Or.inl h)).trans (Only.of_below (bx hp.out k8.out) []) (fun _ h=>by cases h);have hr:=hid h5;clear h5;by_cases hev:ev=0
        ·rw[AT hev];have zd:=hid (HV.out.1.next (s:=s) ⟨by rw[<- HV.out.2.2];exact zy.out,by rw[<- HC.out];exact zv.out,by rw[<- HC.out,kx.out,hev]⟩);have hj:Only [B.mb] wB w5:=((Only.of_below S.out.1 [B.mb]).trans H2.out.2 (fun _ h=>Or.inl h)).trans (Only.of_below (bx hp.out k8.out) []) (fun _ h=>by cases h);have kn:q9k w5 N B L O:=⟨hj.own hJ.out.2.2.1.own (fun k hk hm=>(hJ.out.2.2.1.apart k hk).2.2.2 (by simpa using hm)),hJ.out.2.2.1.apart⟩;have kr:N<=w5.heap.size:=AH hN hr.out.size;obtain⟨pa,pc,w9,Y,z5,qg,hh,hg,h9,M⟩:=x1i y.1 s k1.out kn kr (by have:=hJ.out.2.2.2.2.2.1;have:=km.out;have:=kd.out;omega);obtain⟨pn,kh⟩:∃pn,pn=O.length+1:=⟨_,rfl⟩;rw[<- kh] at Y hh hg h9 M;obtain⟨W9,k4⟩:∃W9,W9=w9.setCell ⟨B.lb,5,none⟩ (.slice pa pn pc):=⟨_,rfl⟩;rw[<- k4] at hh hg h9;have g5:w5.cell? ⟨B.lb,5,none⟩=some L:=k1.out.cells.cell 5;have qa:w5.drew.cell? ⟨B.lb,5,none⟩=some L:=g5;have qi:(w5.alloc (.cells #[.int .u64 y.1,.string s] 48)).drew.cell? ⟨B.lb,5,none⟩=some L:=(k1.out.cells.alloc _).cell 5;have kp:=(H2.out.2.blk S.out.2.1 (by have:=HW.out;have:=hJ.out.2.2.2.1.size;simp;omega)).bel (bx hp.out k8.out);have k0:w5.cell? ⟨wB.heap.size,0,none⟩=some (.int .u64 y.1):=kp.cell 0;have q8:w5.drew.cell? ⟨wB.heap.size,0,none⟩=some (.int .u64 y.1):=k0;have k9:=hid Y;have zh:=hJ.out.2.2.2.2.2.1;have k7:wB.heap.size<=w5.heap.size:=hj.size
         have ha:∀k,(Value.slice pa pn pc).ownBlock=some k->w.heap.size<=k:=by
          intro k hk;rcases M with h|⟨k',h1,h2⟩;·exact hJ.out.2.2.2.2.1 k (h▸hk)
          ·rw[h1] at hk;injection hk with hk;have:=hr.out.size;omega
         have kg:Only (B.mb::B.lb::pr.ownBlock.toList) w7 W9:=by
          refine(hJ.out.2.2.2.2.2.2.1.trans (hj.mono (g:=B.mb::B.lb::pr.ownBlock.toList) (by simp)) (fun _ h=>Or.inl h)).trans h9 (fun y hy=> ?_);rcases AN.1 hy with e|e;·left;rw[e];simp
          ·have e':L.ownBlock=some y:=by simpa[Option.mem_toList] using e
           rcases hJ.out.2.2.2.2.2.2.2 with h|⟨k',h1,h2⟩;·left;rw[h] at e';simp[e']
           ·right;rw[h1] at e';injection e' with e';omega
         have ke:(Value.slice pa pn pc).ownBlock=pr.ownBlock\/ ∃k,(Value.slice pa pn pc).ownBlock=some k/\w7.heap.size<=k:=by
          rcases M with h|⟨k',h1,h2⟩;·rw[h];exact hJ.out.2.2.2.2.2.2.2
          ·exact Or.inr ⟨k',h1,by have:=hJ.out.2.2.2.2.2.2.1.size;omega⟩
         have hf:Only [B.mb,B.lb] w W9:=hr.out.trans h9 (fun y hy=>by
          rcases AN.1 hy with e|e;·left;rw[e];simp
          ·right;exact hJ.out.2.2.2.2.1 y (by simpa[Option.mem_toList] using e))
         have h8:q1j W9 N B bs root lv (.slice pa pn pc) (R++(I++[y]).map (·.2)):=by
          have e:R++(I++[y]).map (·.2)=R2++[y.2]:=by rw[HV.out.2.2];simp
          rw[e];exact hh
         have zf:=hid (⟨zd.out,h8,hg,hf,ha,by rw[AI];simp;omega,kg,ke⟩:VTo bs R (allE leaves) (I++[y]) (O++[(y.1,s)]) (l.drop (q+1)++rest (i+1))/\q1j W9 N B bs root lv (.slice pa pn pc) (R++(I++[y]).map (·.2))/\q9k W9 N B (.slice pa pn pc) (O++[(y.1,s)])/\Only [B.mb,B.lb] w W9/\(∀k,(Value.slice pa pn pc).ownBlock=some k->w.heap.size<=k)/\(O++[(y.1,s)]).length<=8*i+(q+1)/\Only (B.mb::B.lb::pr.ownBlock.toList) w7 W9/\((Value.slice pa pn pc).ownBlock=pr.ownBlock\/ ∃k,(Value.slice pa pn pc).ownBlock=some k/\w7.heap.size<=k));have z0:=hid k4;clear hj kn kr Y hh hg h9 M k4 kp zh k7 ha kg ke hf h8 hev kh u1 v0 v1;go_wp2_with fail;refine(MY.out w5).mono ?_;rintro e w6 ⟨rfl,rfl⟩;go_wp2_with fail;refine Code.wp_mono (Q:=q5y _) q5y.imp ?_;refine z1q (X:= ?X2) (fun key=> ?_) ?_
         rotate_left
         ·go_region_law (refine q1k rfl (.tmp 56) (.tmp 61) 29 29 rfl _ _ (by simp[Act.eval,Act.put]) (by simp[Act.eval,Act.put]) k9.out ?_)
          all_goals
           try go_simp
           try simp only[Act.put,List.setIfInBounds_toArray,List.set_cons_zero,List.set_cons_succ]
           exact key.out
         refine q5y.normal ?_;rw[<- z0.out];go_wp2;go_roundw;case rel=>exact⟨q+1,_,_,_,kd.out,by go_num,zf⟩
         case measure=>simp[intOf];have:=kd.out;omega
        ·rw[AK hev];have k3:=hid (HV.out.1.no (fun s' h=>hev (by have:=h.2.2;rw[<- HC.out,kx.out] at this;injection this with this;have:=congrArg (fun a:Array Value=>a[1]?) this;simpa using this)));clear hev;go_wp2_with fail;refine(MN.out w5).mono ?_;rintro e w6 ⟨rfl,rfl⟩;exact⟨rfl,Or.inr ⟨k3.out,rfl,hr.out⟩⟩
      ·have t1:(c==1)=false:=by simp;exact fun h=>h12 (Or.inl h)
       have t2:(c==2)=false:=by simp;exact fun h=>h12 (Or.inr h)
       have k3:=hid (HV.out.1.no (fun s h=>h12 (by have:=h.2.1;rw[<- HC.out] at this;exact this)));clear h12;go_wp2_with fail;refine kj.out.mono ?_;rintro e w3 ⟨rfl,h4⟩;have hp:=hid h4;clear h4;go_wp2_with fail;refine(MN.out w3).mono ?_;rintro e w4 ⟨rfl,rfl⟩;refine⟨rfl,Or.inr ⟨k3.out,rfl,?_⟩⟩;exact((hJ.out.2.2.2.1.trans (Only.of_below S.out.1 []) (fun _ h=>by cases h)).trans (H2.out.2.mono (by simp)) (fun _ h=>Or.inl h)).trans (Only.of_below hp.out []) (fun _ h=>by cases h)
    ·obtain rfl:q=n:=by omega
     have q1: ¬(q:Int)< (q:Int):=by omega
     have hV:=hJ.out.1;rw[BO (by have:=HX.out.2.2.2;omega),Bi] at hV;have HV:=hid (⟨hV,hJ.out.2.1,hJ.out.2.2.1,hJ.out.2.2.2.1,hJ.out.2.2.2.2.1,by have:=hJ.out.2.2.2.2.2.1;omega⟩:VTo bs R (allE leaves) I O (rest (i+1))/\q1j wB N B bs root lv L (R++I.map (·.2))/\q9k wB N B L O/\Only [B.mb,B.lb] w wB/\(∀k,L.ownBlock=some k->w.heap.size<=k)/\O.length<=8*(i+1));clear hV hqn hq hJ;go_wp2;go_roundw;case rel=>exact⟨i+1,L,O,I,zg.out,by go_num,HV⟩
     case measure=>simp[intOf];have:=zg.out;omega
  ·obtain rfl:i=ln:=by omega
   have i1: ¬(i:Int)< (i:Int):=by omega
   have hV:=hI.out.1;rw[km.out,z9.out.2.2] at hV;have z3:=hV.done;have hs:=hI.out.2.1;rw[z3.2] at hs;have HF:=hid (⟨z3.1,hs,hI.out.2.2.1,hI.out.2.2.2.1⟩:_/\_/\_/\_);clear hV z3 hs hlt hi hI;go_wp2;refine bodyPost_end (v:= .tuple #[]) (by simp[results,Tryz.results154,go_sem]) rfl ?_;exact Or.inl ⟨ps,pr,HF.out.1,rfl,HF.out.2.1,HF.out.2.2.1,HF.out.2.2.2⟩
end
theorem q7l {bs:List Int} {a:Int} {n:NodeA} (h:q1y bs a=some n):0<=n.lv/\n.lv<=15:=by
 unfold q1y at h;split at h
 ·rename_i hh;injection h with h;rw[<- h];unfold q5t q2p;simp only;have e:a+8*((0:Nat):Int)=a:=by simp
  rw[e];omega
 ·cases h
theorem x5s {bs:List Int} (hb:∀x∈bs,0<=x/\x<256) {a:Int} {n:NodeA} (h:q1y bs a=some n):(0<=n.fi/\n.fi<=18446744073709551615):=by rw[(q6c h).2];exact q4b hb a 4
theorem z2p (bs:List Int):q1y bs 0=none:=by unfold q1y clsI q1q;simp
structure RTo (nd:Int->Option NodeA) (L root:Int) (rows:List (List (Int×NodeA))) (lev a0:Int):Prop where
 iff:∀tot,q3f nd L root none tot↔ ∃rest,tot=rows++rest/\q3f nd lev a0 rows.getLast? rest
 each:∀row∈rows,∀x∈row,nd x.1=some x.2/\lev<x.2.lv
 full:∀row∈rows,row≠[]
theorem RTo.start (nd:Int->Option NodeA) (L root:Int):RTo nd L root [] L root:=⟨fun I=>by simp,fun _ h=>by simp at h,fun _ h=>by simp at h⟩
theorem RTo.no {nd:Int->Option NodeA} {L root M a0:Int} {rows:List (List (Int×NodeA))} (h:RTo nd L root rows M a0) (hn:∀row,¬(q0a nd M none a0 row/\q9f row/\ ∀u,rows.getLast?=some u->q4c u row)):∀I,¬q3f nd L root none I:=by
 intro I ht;obtain⟨rest,_,h2⟩:=(h.iff I).1 ht;cases rest with
 | nil=>exact h2
 | cons row rest=>exact hn row ⟨h2.1,h2.2.1,h2.2.2.1⟩
theorem RTo.next {nd:Int->Option NodeA} {L root M a0:Int} {rows:List (List (Int×NodeA))} {row:List (Int×NodeA)} {x:Int×NodeA} {r:List (Int×NodeA)} (h:RTo nd L root rows M a0) (hc:q0a nd M none a0 row) (hm:q9f row) (hl:∀u,rows.getLast?=some u->q4c u row) (h0:M≠0) (hx:row=x::r):RTo nd L root (rows++[row]) (M-1) x.2.fi:=by
 obtain⟨p,hw⟩:=hc.whole;refine⟨fun O=> ?_,fun I hr y hy=> ?_,fun I hr=> ?_⟩
 ·rw[h.iff];constructor
  ·rintro⟨rest,rfl,h2⟩;cases rest with
   | nil=>exact h2.elim
   | cons I rest=>obtain⟨q1,q2,q3,q4⟩:=h2;have e:=q1.det hc;subst e;rw[if_neg h0] at q4;obtain⟨x',r',e1,e2⟩:=q4;rw[hx] at e1;injection e1 with e1 e3;subst e1;refine⟨rest,by simp,?_⟩;rw[CD];simpa using e2
  ·rintro⟨rest,rfl,h2⟩;refine⟨row::rest,by simp,hc,hm,hl,?_⟩;rw[if_neg h0];refine⟨x,r,hx,?_⟩;rw[CD] at h2;simpa using h2
 ·rcases An.1 hr with e|e;·have:=h.each I e y hy;exact⟨this.1,by omega⟩
  ·rw[AF.1 e] at hy;have:=hw.at' y hy;exact⟨this.2.1,by rw[this.2.2];omega⟩
 ·rcases An.1 hr with e|e;·exact h.full I e
  ·rw[AF.1 e,hx];simp
theorem RTo.done {nd:Int->Option NodeA} {L root a0:Int} {rows:List (List (Int×NodeA))} {row:List (Int×NodeA)} (h:RTo nd L root rows 0 a0) (hc:q0a nd 0 none a0 row) (hm:q9f row) (hl:∀u,rows.getLast?=some u->q4c u row):q3f nd L root none (rows++[row]):=(h.iff _).2 ⟨[row],rfl,hc,hm,hl,by rw[if_pos rfl]⟩
theorem z0y {up down:List (Int×NodeA)} (h:q4c up down) (hu:up≠[]):down≠[]:=by
 intro hd;subst hd;cases up with
 | nil=>exact hu rfl
 | cons x up=>have:=h 0 (by simp) (x.2.low,x.2.fi) (by rw[q9x (x:=x) rfl];exact Ae ..);obtain⟨y,hy,_⟩:=this;cases hy
theorem q7i {nd:Int->Option NodeA} {I a0:Int} {row:List (Int×NodeA)} (h:q0a nd I none a0 row) (h0:a0≠0):row≠[]:=by intro e;subst e;exact h0 h
theorem z4f {nd:Int->Option NodeA} {I a0:Int} {row:List (Int×NodeA)} (h:q0a nd I none a0 row):(row.map fun y=>y.2.low).Nodup:=by obtain⟨p,hw⟩:=h.whole;unfold List.Nodup;rw[CI];exact hw.rise.imp (fun L e=>by omega)
def allA (rows:List (List (Int×NodeA))):List Int:=rows.flatMap fun row=>row.map (·.1)
theorem q7d (rows:List (List (Int×NodeA))) (row:List (Int×NodeA)):allA (rows++[row])=allA rows++row.map (·.1):=by unfold allA;simp
theorem RTo.ne {bs:List Int} {L root M a0:Int} {rows:List (List (Int×NodeA))} (h:RTo (q1y bs) L root rows M a0):∀a∈allA rows,∀nd,q1y bs a=some nd->nd.lv≠M:=by intro a ha nd I;unfold allA at ha;obtain⟨row,hr,O⟩:=Bq.1 ha;obtain⟨x,hx,rfl⟩:=Aj.1 O;have:=h.each row hr x hx;rw[this.1] at I;injection I with I;rw[<- I];omega
structure q1a (bs:List Int) (rs:List (List (Int×NodeA))) (ps:List (Int×ByteArray)):Prop where
 slabs:z0p bs
 sup:x3q bs
 rows:∃n,q1y bs (wAt bs 2)=some n/\q3f (q1y bs) n.lv (wAt bs 2) none rs
 vals:∃leaves,rs.getLast?=some leaves/\q4m bs (allA rs) (allE leaves) ps
theorem q5h.ld {W:World} {N:Nat} {B:LkP} {lv:Value} {rows:List (List (Int×NodeA))} (h:q5h W N B lv rows) (h0:rows≠[]):∃g cap,lv= .slice (some ⟨g,0,none⟩) rows.length cap/\rows.length<=cap/\g<W.heap.size/\ ∀(i:Nat) (row:List (Int×NodeA)),rows[i]?=some row-> ∃ra rc,W.cell? ⟨g,i,none⟩=some (.slice ra row.length rc)/\q5n W N (.slice ra row.length rc) row:=by
 obtain⟨vs,h1,h2,h3⟩:=h.own;obtain⟨g,cap,rfl,_,hn,hg,hc⟩:=q2e h2 (Bw.2 h0);refine⟨g,cap,rfl,hn,hg,fun i row hi=> ?_⟩;obtain⟨v,e1,e2⟩:=h3 i row hi;have e3:=e2;unfold q5n at e3;obtain⟨ra,rc,rfl⟩:=q0q e3;refine⟨ra,rc,?_,e2⟩;have:=hc i _ e1
 rwa[AQ] at this
end Go.Proofs.YtibiekfjbibpbaaGreat
