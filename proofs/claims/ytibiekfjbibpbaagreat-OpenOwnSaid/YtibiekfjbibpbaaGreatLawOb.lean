import Derived.Test.YtibiekfjbibpbaaGreatOpN
set_option maxRecDepth 100000
set_option maxHeartbeats 4000000
set_option linter.unusedVariables false
set_option linter.unusedSimpArgs false
namespace Go.Proofs.YtibiekfjbibpbaaGreat
open Go.RowKit
attribute [local go_sem ↓ high] q7f q0v
attribute [local go_sem] q1x Oper.semAt_some q0h
theorem z7b {N q o m:Nat} {v:Value} {B:MB} {bs:List Int} {w2 w3:World} (hq:bs.length=8*q) (h1:0<q) (hM:q4f w2 m B (q3y (q0b bs))) (S:∀k∈q2g m B (q3y (q0b bs)),N<=k) (hN:N<=w2.heap.size) (ho:w2.heap.size<=o) (hB:Blk w3 o 212 (opnC m v nilS (q3g o) false 0 nilS nilS nilS nilS 0 0))
  (hr:rowU w3 w2.heap.size v (adL (List.range q))) (O:v.ownBlock≠some o) (hb:Below w2.heap.size w2 w3):∃tg c,v= .slice (some ⟨tg,0,none⟩) q c/\OpnL N w3 o m B (memK (q0b bs) 0) 0 q c tg nilS:=by
 have M:(adL (List.range q)).length=q:=by simp[adL]
 have Y:(q0b bs).length=q:=by simp[q0b];omega
 rcases hr.2 with⟨_,h2⟩|⟨tg,c,L,h2,h3,h4,h5,h6,h7,h8⟩;·omega
 rw[M] at h2 h5 h8;have I:=hM.foot_lt;have U:q2g m B (memK (q0b bs) 0)=q2g m B (q3y (q0b bs)):=rfl;refine⟨tg,c,h2,⟨hM.only (Only.of_below hb []) (by simp),by show(q0b bs).length=_;omega,by rw[<- h2];exact hB,⟨h5,by unfold maxLen at h6;omega⟩,fun i hi=> ?_,(AA.1 h4).1,World.ownsRow_nil _ _ _ _,?_,fun b hb=>by simp[nilS,Value.ownBlock] at hb,?_⟩⟩
 ·have h9:(L.toList.take (q*1))[i]?=some (adrV i):=by rw[h8,AM];unfold adL;rw[AM,BM (by omega)];rfl
  rw[AV,if_pos (by omega)] at h9;rw[(show Blk w3 tg 51 L from h4).cell];simpa using h9
 ·refine⟨fun hc=> ?_,fun e=>O (by rw[h2,e];rfl),fun hc=> ?_⟩;·have:=I o hc;omega
  ·have:=I tg hc;omega
 ·exact⟨by omega,by omega,S⟩
theorem x7e {w:World} {p:Option Addr} {c:Nat} {bs:List Int} (h:q1m w p c bs) (hc:c<=maxLen) (h0:0<bs.length):z0v w (.slice p bs.length c) bs:=by obtain⟨b,off,rfl,h1,h2⟩:=h.2.2 h0;exact⟨h.2.1,Or.inr ⟨_,c,rfl,h.1,hc,Or.inr ⟨b,off,rfl,h1,h2⟩⟩⟩
theorem v0a (x a b c:Int) (w:World):(Instr.field 129 (.agg #[.int .u64 x,.int .u64 a,.int .u64 b,.int .u64 c]) 0).run Tryz.prog w= .ok (.int .u64 x) w:=by kernel_rfl
theorem x5j (o m:Nat) (B:MB) (M:MemS) (bs:List Int) (tv wv pv rv fv kv:Value) (I h nn:Int) (ps:List (Int×ByteArray)) (R F K:List Int) (L:I=0\/I=6/\h=0/\nn=0/\ps=[]/\R=[]/\F=[]/\K=[]) (O:ps.length<=1000000/\R.length<=1000000/\F.length<=1000000/\K.length<=1000000) (w:World)
  (H:OpnD w o m B M bs tv wv true I h nn ps R F K pv rv fv kv):
  Calls Tryz.prog 33 #[.pointer (some ⟨o,0,none⟩)] w fun e w'=> ∃pv rv fv kv,e= .returned (.tuple #[.agg #[pv,rv,fv,kv,.int .i64 h,.int .i64 nn],.int .i64 I])/\q6g w' pv rv fv kv ps R F K/\Below w.heap.size w w'/\ ∀v∈[pv,rv,fv,kv],∀k,v.ownBlock=some k->w.heap.size<=k:=by
 rcases L with rfl|⟨rfl,rfl,rfl,rfl,rfl,rfl,rfl⟩
 ·obtain⟨pa,pc,rfl,_⟩:=H.rep.pc;obtain⟨ra,rc,rfl,_⟩:=H.rep.ra;obtain⟨fa,fc,rfl,_⟩:=H.rep.fa;obtain⟨ka,kc,rfl,_⟩:=H.rep.ka;refine(x4u o m B M bs tv wv h nn ps R F K pa ra fa ka pc rc fc kc O w H).mono ?_;rintro e w' ⟨a1,c1,a2,c2,a3,c3,a4,c4,rfl,h1,h2,h3,h4,h5⟩;refine⟨_,_,_,_,rfl,q6g.of_own h1 h2 h3 h4,h5,fun v hv k hk=> ?_⟩;simp only[List.mem_cons,List.not_mem_nil,or_false] at hv;rcases hv with rfl|rfl|rfl|rfl;·exact(q3c h1 k hk).1
  ·exact(q1d h2 k hk).1
  ·exact(q1d h3 k hk).1
  ·exact(q1d h4 k hk).1
 ·refine(z2v o m B M.view.length M.st H.mem.pos H.mem.big tv wv true pv rv fv kv 0 0 6 6 rfl (by omega) w H.mem.blk H.blk).mono ?_;rintro e w' ⟨rfl,h5⟩;obtain⟨pa,pc,ra,rc,fa,fc,ka,kc,he,h6⟩:=z1j w';refine⟨.slice none 0 0,.slice none 0 0,.slice none 0 0,.slice none 0 0,rfl,?_,h5,fun v hv k hk=> ?_⟩;·exact⟨Or.inl ⟨rfl,rfl,rfl⟩,⟨none,0,rfl,AG _⟩,⟨none,0,rfl,Or.inl rfl⟩,⟨none,0,rfl,Or.inl rfl⟩,⟨none,0,rfl,Or.inl rfl⟩⟩
  ·simp only[List.mem_cons,List.not_mem_nil,or_false] at hv;rcases hv with rfl|rfl|rfl|rfl<;>cases hk
theorem v3k (v:Value) (bs:List Int) (w:World) (h:z0v w v bs) (hl:bs.length<=100000) (hm:mayB bs.length=false):
  Calls Tryz.prog 37 #[v] w fun e w'=>e= .returned (.bool true)/\Below w.heap.size w w':=by
 obtain⟨p,cap,rfl,Y,U⟩:=h.form;obtain⟨p',I,W1,M,O,L,S⟩:=v4v h (by omega);have MN:=hid (y0f p' bs.length I hm (by omega) W1);obtain⟨n,hn⟩:∃n,n=bs.length:=⟨_,rfl⟩;rw[<- hn] at M MN ⊢;have h1:=hid S;clear h Y O L S hl hm hn;go_enter Tryz.func37,Tryz.ntmps37;go_wp2_with fail;refine MN.out.mono ?_;rintro e w2 hp;obtain⟨rfl,rfl⟩:=hp;go_wp2_with fail;go_ret;exact⟨rfl,h1.out⟩
def ObF (q n m o:Nat) (err:Int) (pv:Value) (S0:ByteArray) (g1 g2:Array Value):Nat->Value->World->Prop
 | 0,v,_=>v= .int .i64 (q:Int)
 | 1,v,_=>v= .int .i64 (q:Int)
 | 2,v,_=>v= .bool true
 | 3,v,_=>v= .bool true
 | 4,v,_=>v= .pointer (some ⟨o,0,none⟩)
 | 5,v,_=>v= .int .i64 0
 | 6,v,_=>v= .bool true
 | 7,v,_=>v= .bool true
 | 8,v,_=>v= .bool true
 | 9,v,_=>v=ptrV m
 | 10,v,_=>v= .agg #[.int .u64 (q:Int),.int .u64 0,.int .u64 0,.int .u64 0]
 | 11,v,_=>v= .int .u64 (q:Int)
 | 12,v,_=>v= .int .i64 (q:Int)
 | 13,v,_=>v= .int .u64 (q:Int)
 | 14,v,_=>v= .bool true
 | 15,v,_=>v= .bool true
 | 16,v,_=>v= .bool true
 | 17,v,_=>v= .int .i64 err
 | 18,v,_=>v= .int .i64 err
 | 19,v,_=>v= .bool true
 | 20,v,_=>v= .bool true
 | 21,v,_=>v= .bool true
 | 22,v,_=>v= .int .i64 err
 | 23,v,_=>v= .int .i64 err
 | 24,v,_=>v= .bool true
 | 25,v,_=>v= .bool true
 | 26,v,_=>v= .bool true
 | 27,v,_=>v= .agg g1
 | 28,v,_=>v= .agg g2
 | 29,v,_=>v= .bool true
 | 30,v,_=>v= .bool true
 | 31,v,_=>v= .bool true
 | 32,v,_=>v=ptrV m
 | 33,v,w=> ∃a c,v= .slice a n c/\ ∀X,Below w.heap.size w X->(convert 36 9 (.slice a n c)).run Tryz.prog X= .ok (.string S0) X
 | 34,v,_=>v= .string S0
 | 35,v,_=>v=pv
 | 36,v,_=>v= .string S0
 | 37,v,_=>v= .bool true
 | 38,v,_=>v= .bool true
 | 39,v,_=>v= .bool true
 | 40,v,_=>v=ptrV m
 | 41,v,_=> ∃a c,v= .slice a 0 c
 | 42,v,_=>v= .int .i64 0
 | 43,v,_=>v= .bool true
 | 44,v,_=>v= .bool true
 | _,_,_=>True
theorem ObF.bel {q n m o:Nat} {I:Int} {pv:Value} {S0:ByteArray} {g1 g2:Array Value} {w w':World} (hb:Below w.heap.size w w') (j:Nat) (v:Value) (h:ObF q n m o I pv S0 g1 g2 j v w):ObF q n m o I pv S0 g1 g2 j v w':=by
 by_cases hj:j=33;·subst hj;obtain⟨a,c,h1,h2⟩:=h;exact⟨a,c,h1,fun X hX=>h2 X (bx hb hX)⟩
 ·unfold ObF at h ⊢;split at h<;>first|exact h|exact absurd rfl hj
theorem x8k (v:Value) (bs:List Int) (w:World) (h:z0v w v bs) (hl:bs.length<=100000) (hm:mayB bs.length=true):
  Calls Tryz.prog 37 #[v] w fun e w'=>e= .returned (.bool true)/\Below w.heap.size w w':=by
 obtain⟨p,cap,rfl,q0,z0⟩:=h.form;obtain⟨p',ht,W1,k9,k7,ko,h5⟩:=v4v h (by omega);obtain⟨q1,q2,e1,k1,zr⟩:=k7.form;injection e1 with e1 _ e2;subst e1 e2;have MZ:=hid (v9f p' ht bs hm zr W1 k1);obtain⟨q,hq⟩:∃q,bs.length=8*q:=⟨bs.length/8,by unfold mayB at hm;simp at hm;omega⟩;have zm:0<q:=by unfold mayB at hm;simp at hm;omega
 have zj:q<=12500:=by omega
 obtain⟨n,hn⟩:∃n,n=bs.length:=⟨_,rfl⟩;rw[<- hn] at k9 MZ ⊢;obtain⟨hh,nn,M,ps,R,F,K,hz,zq,k4,q3,zk⟩:=x3s h.1;have HQ:=hid (⟨hq,zm,zj,hn⟩:_/\_/\_/\_);have ve:=hid h;have kb:=hid q0;have kg:=hid h5;have HS:=hid (⟨hz,zq,k4⟩:_/\_/\_);have q6:=hid q3;have v5:=hid zk;clear h q0 z0 k7 ko k1 zr h5 hl hm hz zq k4 q3 zk hq zm zj hn;go_enter Tryz.func37,Tryz.ntmps37;go_wp2_with fail;refine MZ.out.mono ?_;rintro e w2 ⟨m,B,rfl,hM,zz,q5⟩;have ON:=hid (x7q m B q ⟨0,0,0,0⟩ HQ.out.2.1 (by have:=HQ.out;omega) w2 (by have h1:=hM.blk;have h2:(q3y (q0b bs)).view.length=q:=(by have:=HQ.out;simp[q3y,q0b];omega);rw[h2] at h1;exact h1));have HM:=hid (⟨hM,zz,q5⟩:_/\_/\_);clear hM zz q5 MZ k9;go_wp2_with fail;refine(callsIn_wide.1 ON.out).mono ?_;rintro e w3 ⟨o,v,rfl,ho,qz,zy,zn,q4,zc⟩;obtain⟨tg,c,rfl,hL⟩:=z7b (N:=W1.heap.size) HQ.out.1 HQ.out.2.1 HM.out.1 HM.out.2.2 HM.out.2.1.size ho zy zn q4 zc;have HL:=hid (⟨hL,bx HM.out.2.1 zc⟩:_/\_);clear ho qz zy zn q4 zc hL ON;go_wp2_with fail;refine(x4k p q n cap (by have:=HQ.out;omega) (by have:=HQ.out;omega) _).mono ?_;rintro e w4 ⟨rfl,rfl⟩;have OR:=hid (z2v o m B _ _ HL.out.1.mem.pos HL.out.1.mem.big _ _ false _ _ _ _ 0 0 0 7 rfl (by omega) w4 HL.out.1.mem.blk HL.out.1.blk);go_wp2_with fail;refine OR.out.mono ?_;rintro e w5 ⟨rfl,kk⟩;have hp:=hid (⟨HL.out.1.bel kk,HL.out.2.trans (kk.mono HL.out.2.size)⟩:_/\_);clear kk OR;unfold rep0;go_wp2_with fail;refine(x5i o m B _ _ hp.out.1.mem.pos hp.out.1.mem.big _ _ _ _ _ _ _ _ _ _ _ _ _ (hp.out.1.mem.blk.alloc _) (hp.out.1.blk.alloc _)).mono ?_;rintro e w6 ⟨rfl,zt⟩;have zb:Below w5.heap.size w5 w6:=by rw[zt];exact ba (Below.refl _ _) _
 have qe:((q:Int) !=(q:Int))=false:=by simp
 have OW:Hid (Calls Tryz.prog 31 #[ptrV m,.pointer (some ⟨o,0,none⟩),.int .i64 ((q:Int)+1)] w6 fun e w'=>e= .returned (.int .i64 (q:Int))/\Below W1.heap.size w6 w'/\
   ∃tv wv' pv rv fv kv,OpnD w' o m B (memK (q0b bs) q) bs tv wv' true M hh nn ps R F K pv rv fv kv):=by
  have h1:=x2u W1.heap.size o m B q c tg (q+1) bs kb.out.2.1 HQ.out.1 HQ.out.2.1 (by have:=HQ.out;omega) (by omega) (by have:=HQ.out;omega) M hh nn ps R F K q6.out w6 (hp.out.1.bel zb);rw[show((q+1:Nat):Int)=(q:Int)+1 by omega] at h1;exact hid h1
 have zx:=hid (hp.out.2.trans (zb.mono hp.out.2.size));have iq:(q:Int)<=12500:=by have:=HQ.out;omega
 have vk:(0:Int)< (q:Int):=by have:=HQ.out;omega
 clear zt zb HL hp;go_wp2_with fail;refine OW.out.mono ?_;rintro e w7 ⟨rfl,zv,tv,wv,pv,rv,fv,kv,hD⟩;have HD:=hid hD;have z7:=hid (zx.out.trans zv);have OR:=hid (x5j o m B _ bs tv wv pv rv fv kv M hh nn ps R F K HS.out.1 HS.out.2.2 w7 hD);clear OW zx zv hD;go_wp2_with fail;refine OR.out.mono ?_;rintro e w8 ⟨rp,rr,rf,rk,rfl,U,kx,k5⟩;obtain⟨pa,pc,rfl,_⟩:=U.pc;obtain⟨ra,rc,rfl,_⟩:=U.ra;obtain⟨fa,fc,rfl,_⟩:=U.fa;obtain⟨ka,kc,rfl,_⟩:=U.ka;obtain⟨pn,z2⟩:∃pn,pn=ps.length:=⟨_,rfl⟩;obtain⟨rn,z5⟩:∃rn,rn=R.length:=⟨_,rfl⟩;obtain⟨fn,ze⟩:∃fn,fn=F.length:=⟨_,rfl⟩;obtain⟨kn,zf⟩:∃kn,kn=K.length:=⟨_,rfl⟩;rw[<- z2,<- z5,<- ze,<- zf] at U ⊢;have ki:=hid (⟨z2,z5,ze,zf⟩:_/\_/\_/\_);obtain⟨T1,kp⟩:∃T1,T1=w8.heap.size:=⟨_,rfl⟩;obtain⟨W9,kh⟩:∃W9,W9=w8.alloc (.cells #[.slice pa pn pc,.slice ra rn rc,.slice fa fn fc,.slice ka kn kc,.int .i64 hh,.int .i64 nn] 32):=⟨_,rfl⟩;have ke:Below w8.heap.size w8 W9:=by rw[kh];exact ba (Below.refl _ _) _
 have zs:Blk W9 T1 32 #[.slice pa pn pc,.slice ra rn rc,.slice fa fn fc,.slice ka kn kc,.int .i64 hh,.int .i64 nn]:=by rw[kh,kp];exact Blk.new _ _ _
 have ql:W1.heap.size<=w7.heap.size:=z7.out.size;have kf:=hid (z7.out.trans ((bx kx ke).mono ql));have HX:=hid (⟨U.bel ke,zs,HD.out.bel (bx kx ke)⟩:_/\_/\_);have zo:=hid kp;have zl:=hid kh;have RO:=hid (x7p hh nn M ps R F K p cap bs n HQ.out.2.2.2 (by have:=HQ.out;omega) v5.out W9 (q2d kb.out (bx kg.out kf.out)));clear z2 z5 ze zf kp kh ke zs U kx k5 z7 HD OR;go_wp2_with fail;rw[show _=W9 from zl.out.symm];rw[<- zo.out];refine RO.out.mono ?_;rintro e kd ⟨⟨hg,hj,h9,hf,h7,h8,ha,h6,rfl,he⟩,k3⟩;rw[<- ki.out.1,<- ki.out.2.1,<- ki.out.2.2.1,<- ki.out.2.2.2] at he ⊢;obtain⟨T2,ky⟩:∃T2,T2=kd.heap.size:=⟨_,rfl⟩;obtain⟨hs,hk⟩:∃hs,hs=kd.alloc (.cells #[.slice hg pn hj,.slice h9 rn hf,.slice h7 fn h8,.slice ha kn h6,.int .i64 hh,.int .i64 nn] 32):=⟨_,rfl⟩;have hr:Below kd.heap.size kd hs:=by rw[hk];exact ba (Below.refl _ _) _
 have hy:Blk hs T2 32 #[.slice hg pn hj,.slice h9 rn hf,.slice h7 fn h8,.slice ha kn h6,.int .i64 hh,.int .i64 nn]:=by rw[hk,ky];exact Blk.new _ _ _
 have k0:=bx k3 hr;have HY:=hid (⟨HX.out.1.bel k0,HX.out.2.1.bel k0,HX.out.2.2.bel k0,he.bel hr,hy,kf.out.trans (k0.mono kf.out.size)⟩:_/\_/\_/\_/\_/\_);have zp:=hid ky;have k8:=hid hk;have SD:=hid (z3t o m B _ _ HY.out.2.2.1.mem.pos HY.out.2.2.1.mem.big _ _ _ _ _ _ _ _ _ hs HY.out.2.2.1.mem.blk HY.out.2.2.1.blk);clear ky hk hr hy k0 he k3 HX kf RO zo zl;go_wp2_with fail;rw[show _=hs from k8.out.symm];rw[<- zp.out];refine SD.out.mono ?_;rintro e O ⟨rfl,S⟩;have HZ:=hid (⟨HY.out.1.bel S,HY.out.2.1.bel S,HY.out.2.2.1.bel S,HY.out.2.2.2.1.bel S,HY.out.2.2.2.2.1.bel S,HY.out.2.2.2.2.2.trans (S.mono HY.out.2.2.2.2.2.size)⟩:_/\_/\_/\_/\_/\_);clear S HY SD zp k8;go_upto_region 13 with fail;obtain⟨ta,tc,rfl⟩:=HZ.out.2.2.1.tv;obtain⟨S0,z4⟩:∃S0,S0=strOfNums bs:=⟨_,rfl⟩;have vi:(S0.toList==S0.toList)=true:=by simp
 have be:(M==M)=true:=by simp
 have qj:IntKind.u64.wrap (q:Int)=(q:Int):=by rw[IntKind.wrap_u64];omega
 have qq:((q:Int)==(q:Int))=true:=by simp
 have KS:Hid (∀X,Below O.heap.size O X->(ldR Tryz.prog 32 (.pointer (some ⟨T1,0,none⟩)) X= .ok (.agg #[.slice pa pn pc,.slice ra rn rc,.slice fa fn fc,.slice ka kn kc,.int .i64 hh,.int .i64 nn]) X/\ldR Tryz.prog 32 (.pointer (some ⟨T2,0,none⟩)) X= .ok (.agg #[.slice hg pn hj,.slice h9 rn hf,.slice h7 fn h8,.slice ha kn h6,.int .i64 hh,.int .i64 nn]) X/\(convert 36 9 (.slice p n cap)).run Tryz.prog X= .ok (.string S0) X)/\Below O.heap.size O X):=by refine hid fun X hb=>⟨⟨(HZ.out.2.1.bel hb).ld (P:=Tryz.prog) Tryz.underlying32 rfl (by kernel_rfl),(HZ.out.2.2.2.2.1.bel hb).ld (P:=Tryz.prog) Tryz.underlying32 rfl (by kernel_rfl),?_⟩,hb⟩;have h1:=x8d (ve.out.bel (bx kg.out (HZ.out.2.2.2.2.2.trans (hb.mono HZ.out.2.2.2.2.2.size))));rw[HQ.out.2.2.2,z4];exact h1
 have LF:Hid (∀X,Below O.heap.size O X->Calls Tryz.prog 119 #[.pointer (some ⟨o,0,none⟩)] X fun e w'=>e= .returned (.int .i64 0)/\w'=X):=hid fun X hb=>x5i o m B _ _ HZ.out.2.2.1.mem.pos HZ.out.2.2.1.mem.big ta 0 tc _ _ _ _ _ _ _ _ _ X (HZ.out.2.2.1.mem.blk.bel hb) (HZ.out.2.2.1.blk.bel hb);have SF:Hid (∀X,Below O.heap.size O X->Calls Tryz.prog 61 #[ptrV m] X fun e w'=>e= .returned (.agg #[.int .u64 (q:Int),.int .u64 0,.int .u64 0,.int .u64 0])/\Below X.heap.size X w'):=hid fun X hb=>z6g m B _ q X (HZ.out.2.2.1.mem.only (Only.of_below hb []) (by simp));have EF:Hid (∀X,Below O.heap.size O X->Calls Tryz.prog 17 #[.agg #[.slice pa pn pc,.slice ra rn rc,.slice fa fn fc,.slice ka kn kc,.int .i64 hh,.int .i64 nn],.agg #[.slice hg pn hj,.slice h9 rn hf,.slice h7 fn h8,.slice ha kn h6,.int .i64 hh,.int .i64 nn]] X fun e w'=>e= .returned (.bool true)/\Below X.heap.size X w'):=hid fun X hb=>(x8o hh nn pn pn pa hg pc hj (.slice ra rn rc) (.slice fa fn fc) (.slice ka kn kc) (.slice h9 rn hf) (.slice h7 fn h8) (.slice ha kn h6) ps R F K X (HZ.out.1.bel hb) (HZ.out.2.2.2.1.bel hb) HS.out.2.2 HS.out.2.1);have IF:Hid (∀X,Below O.heap.size O X->Calls Tryz.prog 120 #[ptrV m] X fun e w'=> ∃p c,e= .returned (.slice p n c)/\(∀Y,Below w'.heap.size w' Y->(convert 36 9 (.slice p n c)).run Tryz.prog Y= .ok (.string S0) Y)/\Below X.heap.size X w'):=by refine hid fun X hb=>(v4d m B _ X (HZ.out.2.2.1.mem.only (Only.of_below hb []) (by simp)) (z8k kb.out.2.1)).mono ?_;rintro e w' ⟨ip,ic,rfl,h1,h2,h3⟩;have q8:q3m (memK (q0b bs) q).image=bs:=q8l q kb.out.2.1 HQ.out.1;rw[q8] at h1 ⊢;have h4:=x7e h1 h2 (by have:=HQ.out;omega);rw[HQ.out.2.2.2,z4];exact⟨ip,ic,rfl,fun Y hY=>x8d (h4.bel hY),h3⟩
 have NF:Hid (∀X,Below O.heap.size O X->Calls Tryz.prog 121 #[ptrV m] X fun e w'=>(∃a c,e= .returned (.slice a 0 c))/\Below X.heap.size X w'):=hid fun X hb=>v3b m B _ X (HZ.out.2.2.1.mem.only (Only.of_below hb []) (by simp)) rfl
 have vh:Below O.heap.size O O:=Below.refl _ _;have B0:Below O.heap.size O O.drew:=(Below.refl _ _).drew;have qh:=hid (kg.out.trans (HZ.out.2.2.2.2.2.mono kg.out.size));clear HZ HM z4;refine q9z 45 (fun listed a X=>Below O.heap.size O X/\ ∃x:Nat->Value,z8q (ObF q n m o M (.slice p n cap) S0 #[.slice pa pn pc,.slice ra rn rc,.slice fa fn fc,.slice ka kn kc,.int .i64 hh,.int .i64 nn] #[.slice hg pn hj,.slice h9 rn hf,.slice h7 fn h8,.slice ha kn h6,.int .i64 hh,.int .i64 nn]) listed x X/\a={ tmps:= #[.slice p n cap,undef,.bool false,ptrV m,.int .i64 0,.pointer (some ⟨o,0,none⟩),.int .i64 (q:Int),.pointer (some ⟨w5.heap.size,0,none⟩),.int .i64 7,.int .i64 (q:Int),.pointer (some ⟨T1,0,none⟩),.int .i64 M,.pointer (some ⟨T2,0,none⟩),.int .i64 M,.bool true,.int .i64 M,.tuple #[ptrV m,.int .i64 0],.slice p n cap,.slice p' n ht,.tuple #[ptrV m,.int .i64 0],ptrV m,.int .i64 0,.int .i64 0,.bool false,.bool false,ptrV m,.bool false,.bool false,undef,undef,undef,undef,undef,undef,ptrV m,.pointer (some ⟨o,0,none⟩),.slice p n cap,.int .i64 (q:Int),.tuple #[.agg #[.slice none 0 0,.slice none 0 0,.slice none 0 0,.slice none 0 0,.int .i64 0,.int .i64 0],.int .i64 7],.pointer (some ⟨o,0,none⟩),.tuple #[.agg #[.slice none 0 0,.slice none 0 0,.slice none 0 0,.slice none 0 0,.int .i64 0,.int .i64 0],.int .i64 7],.agg #[.slice none 0 0,.slice none 0 0,.slice none 0 0,.slice none 0 0,.int .i64 0,.int .i64 0],.int .i64 7,.pointer (some ⟨o,0,none⟩),.int .i64 (q:Int),.int .i64 (q:Int),.bool false,.bool false,.int .i64 7,.bool false,.bool false,ptrV m,.pointer (some ⟨o,0,none⟩),.int .i64 (q:Int),.int .i64 ((q:Int)+1),.int .i64 (q:Int),.tuple #[.agg #[.slice pa pn pc,.slice ra rn rc,.slice fa fn fc,.slice ka kn kc,.int .i64 hh,.int .i64 nn],.int .i64 M],.pointer (some ⟨o,0,none⟩),.tuple #[.agg #[.slice pa pn pc,.slice ra rn rc,.slice fa fn fc,.slice ka kn kc,.int .i64 hh,.int .i64 nn],.int .i64 M],.agg #[.slice pa pn pc,.slice ra rn rc,.slice fa fn fc,.slice ka kn kc,.int .i64 hh,.int .i64 nn],.int .i64 M,.tuple #[.agg #[.slice hg pn hj,.slice h9 rn hf,.slice h7 fn h8,.slice ha kn h6,.int .i64 hh,.int .i64 nn],.int .i64 M],.slice p n cap,.tuple #[.agg #[.slice hg pn hj,.slice h9 rn hf,.slice h7 fn h8,.slice ha kn h6,.int .i64 hh,.int .i64 nn],.int .i64 M],.agg #[.slice hg pn hj,.slice h9 rn hf,.slice h7 fn h8,.slice ha kn h6,.int .i64 hh,.int .i64 nn],.int .i64 M,.tuple #[.bool true,.int .i64 M],.pointer (some ⟨o,0,none⟩),.tuple #[.bool true,.int .i64 M],.bool true,.int .i64 M,x 0,x 1,x 2,x 3,x 4,x 5,x 6,x 7,x 8,x 9,x 10,x 11,x 12,x 13,x 14,x 15,x 16,x 17,x 18,x 19,x 20,x 21,x 22,x 23,x 24,x 25,x 26,x 27,x 28,x 29,x 30,x 31,x 32,x 33,x 34,x 35,x 36,x 37,x 38,x 39,x 40,x 41,x 42,x 43,x 44],defers:=[] }) rfl (by kernel_rfl) ?_ ?_ ?_;·exact⟨B0,fun _=>undef,fun i hi=>(by rw[getD_replicate_false] at hi;cases hi),rfl⟩
 ·rintro listed a X i op hi ho vj I ⟨L,x,hx,rfl⟩;rcases(by omega:i=0\/i=1\/i=2\/i=3\/i=4\/i=5\/i=6\/i=7\/i=8\/i=9\/i=10\/i=11\/i=12\/i=13\/i=14\/i=15\/i=16\/i=17\/i=18\/i=19\/i=20\/i=21\/i=22\/i=23\/i=24\/i=25\/i=26\/i=27\/i=28\/i=29\/i=30\/i=31\/i=32\/i=33\/i=34\/i=35\/i=36\/i=37\/i=38\/i=39\/i=40\/i=41\/i=42\/i=43\/i=44) with rfl|rfl|rfl|rfl|rfl|rfl|rfl|rfl|rfl|rfl|rfl|rfl|rfl|rfl|rfl|rfl|rfl|rfl|rfl|rfl|rfl|rfl|rfl|rfl|rfl|rfl|rfl|rfl|rfl|rfl|rfl|rfl|rfl|rfl|rfl|rfl|rfl|rfl|rfl|rfl|rfl|rfl|rfl|rfl|rfl;·cases ho;refine q1f rfl rfl (q0k (v:= .int .i64 (q:Int)) ?_ ⟨L,upd x 0 _,hx.step (fun j v h=>h) rfl,rfl⟩);go_simp
  ·cases ho;refine q1f rfl rfl (q0k (v:= .int .i64 (q:Int)) ?_ ⟨L,upd x 1 _,hx.step (fun j v h=>h) rfl,rfl⟩);go_simp
  ·cases ho;have qp:x 0= .int .i64 (q:Int):=hx 0 (I { on:=0,ground:= .data } (by simp) rfl);have qm:x 1= .int .i64 (q:Int):=hx 1 (I { on:=1,ground:= .data } (by simp) rfl);refine q1f rfl rfl (q0k (v:= .bool true) ?_ ⟨L,upd x 2 _,hx.step (fun j v h=>h) rfl,rfl⟩);rw[qp,qm];go_simp
  ·cases ho;have v2:x 2= .bool true:=hx 2 (I { on:=2,ground:= .data } (by simp) rfl);refine q1f rfl rfl (q0k (v:= .bool true) ?_ ⟨L,upd x 3 _,hx.step (fun j v h=>h) rfl,rfl⟩);rw[v2];go_simp
  ·cases ho;have eg:x 3= .bool true:=hx 3 (I { on:=3,ground:= .guard } (by simp) rfl);refine q1c rfl (by rw[eg];rfl) (q0k (v:= .pointer (some ⟨o,0,none⟩)) ?_ ⟨L,upd x 4 _,hx.step (fun j v h=>h) rfl,rfl⟩);go_simp
  ·cases ho;have eg:x 3= .bool true:=hx 3 (I { on:=3,ground:= .guard } (by simp) rfl);have vf:x 4= .pointer (some ⟨o,0,none⟩):=hx 4 (I { on:=4,ground:= .data } (by simp) rfl);refine q1c rfl (by rw[eg];rfl) (q4l (f:=119) (args:= #[x 4]) (by kernel_rfl) ?_);have C:=LF.out X L;rw[<- vf] at C;refine C.mono ?_;rintro e X' ⟨rfl,rfl⟩;exact⟨_,rfl,L,upd x 5 _,hx.step (fun j v h=>h) rfl,rfl⟩
  ·cases ho;have eg:x 3= .bool true:=hx 3 (I { on:=3,ground:= .guard } (by simp) rfl);have qa:x 5= .int .i64 0:=hx 5 (I { on:=5,ground:= .data } (by simp) rfl);refine q1c rfl (by rw[eg];rfl) (q0k (v:= .bool true) ?_ ⟨L,upd x 6 _,hx.step (fun j v h=>h) rfl,rfl⟩);rw[qa];go_simp
  ·cases ho;have v3:x 3= .bool true:=hx 3 (I { on:=3,ground:= .data } (by simp) rfl);have qf:x 6= .bool true:=hx 6 (I { on:=6,ground:= .data } (by simp) rfl);refine q1f rfl rfl (q0k (v:= .bool true) ?_ ⟨L,upd x 7 _,hx.step (fun j v h=>h) rfl,rfl⟩);rw[v3,qf];go_simp
  ·cases ho;have qx:x 7= .bool true:=hx 7 (I { on:=7,ground:= .data } (by simp) rfl);refine q1f rfl rfl (q0k (v:= .bool true) ?_ ⟨L,upd x 8 _,hx.step (fun j v h=>h) rfl,rfl⟩);rw[qx];go_simp
  ·cases ho;have eg:x 8= .bool true:=hx 8 (I { on:=8,ground:= .guard } (by simp) rfl);refine q1c rfl (by rw[eg];rfl) (q0k (v:=ptrV m) ?_ ⟨L,upd x 9 _,hx.step (fun j v h=>h) rfl,rfl⟩);go_simp
  ·cases ho;have eg:x 8= .bool true:=hx 8 (I { on:=8,ground:= .guard } (by simp) rfl);have qn:x 9=ptrV m:=hx 9 (I { on:=9,ground:= .data } (by simp) rfl);refine q1c rfl (by rw[eg];rfl) (q4l (f:=61) (args:= #[x 9]) (by kernel_rfl) ?_);have C:=SF.out X L;rw[<- qn] at C;refine C.mono ?_;rintro e X' ⟨rfl,h5⟩;exact⟨_,rfl,bx L h5,upd x 10 _,hx.step (ObF.bel h5) rfl,rfl⟩
  ·cases ho;have eg:x 8= .bool true:=hx 8 (I { on:=8,ground:= .guard } (by simp) rfl);have qo:x 10= .agg #[.int .u64 (q:Int),.int .u64 0,.int .u64 0,.int .u64 0]:=hx 10 (I { on:=10,ground:= .data } (by simp) rfl);have hl:=v0a (q:Int) 0 0 0 X;refine q1c rfl (by rw[eg];rfl) (q0k (v:= .int .u64 (q:Int)) ?_ ⟨L,upd x 11 _,hx.step (fun j v h=>h) rfl,rfl⟩);rw[qo];go_simp
  ·cases ho;have eg:x 8= .bool true:=hx 8 (I { on:=8,ground:= .guard } (by simp) rfl);refine q1c rfl (by rw[eg];rfl) (q0k (v:= .int .i64 (q:Int)) ?_ ⟨L,upd x 12 _,hx.step (fun j v h=>h) rfl,rfl⟩);go_simp
  ·cases ho;have eg:x 8= .bool true:=hx 8 (I { on:=8,ground:= .guard } (by simp) rfl);have qv:x 12= .int .i64 (q:Int):=hx 12 (I { on:=12,ground:= .data } (by simp) rfl);refine q1c rfl (by rw[eg];rfl) (q0k (v:= .int .u64 (q:Int)) ?_ ⟨L,upd x 13 _,hx.step (fun j v h=>h) rfl,rfl⟩);rw[qv];go_simp
  ·cases ho;have eg:x 8= .bool true:=hx 8 (I { on:=8,ground:= .guard } (by simp) rfl);have v4:x 11= .int .u64 (q:Int):=hx 11 (I { on:=11,ground:= .data } (by simp) rfl);have qb:x 13= .int .u64 (q:Int):=hx 13 (I { on:=13,ground:= .data } (by simp) rfl);refine q1c rfl (by rw[eg];rfl) (q0k (v:= .bool true) ?_ ⟨L,upd x 14 _,hx.step (fun j v h=>h) rfl,rfl⟩);rw[v4,qb];go_simp
  ·cases ho;have v1:x 8= .bool true:=hx 8 (I { on:=8,ground:= .data } (by simp) rfl);have qd:x 14= .bool true:=hx 14 (I { on:=14,ground:= .data } (by simp) rfl);refine q1f rfl rfl (q0k (v:= .bool true) ?_ ⟨L,upd x 15 _,hx.step (fun j v h=>h) rfl,rfl⟩);rw[v1,qd];go_simp
  ·cases ho;have qs:x 15= .bool true:=hx 15 (I { on:=15,ground:= .data } (by simp) rfl);refine q1f rfl rfl (q0k (v:= .bool true) ?_ ⟨L,upd x 16 _,hx.step (fun j v h=>h) rfl,rfl⟩);rw[qs];go_simp
  ·cases ho;have eg:x 16= .bool true:=hx 16 (I { on:=16,ground:= .guard } (by simp) rfl);refine q1c rfl (by rw[eg];rfl) (q0k (v:= .int .i64 M) ?_ ⟨L,upd x 17 _,hx.step (fun j v h=>h) rfl,rfl⟩);go_simp
  ·cases ho;have eg:x 16= .bool true:=hx 16 (I { on:=16,ground:= .guard } (by simp) rfl);refine q1c rfl (by rw[eg];rfl) (q0k (v:= .int .i64 M) ?_ ⟨L,upd x 18 _,hx.step (fun j v h=>h) rfl,rfl⟩);go_simp
  ·cases ho;have eg:x 16= .bool true:=hx 16 (I { on:=16,ground:= .guard } (by simp) rfl);have qc:x 17= .int .i64 M:=hx 17 (I { on:=17,ground:= .data } (by simp) rfl);have qt:x 18= .int .i64 M:=hx 18 (I { on:=18,ground:= .data } (by simp) rfl);refine q1c rfl (by rw[eg];rfl) (q0k (v:= .bool true) ?_ ⟨L,upd x 19 _,hx.step (fun j v h=>h) rfl,rfl⟩);rw[qc,qt];go_simp
  ·cases ho;have q9:x 16= .bool true:=hx 16 (I { on:=16,ground:= .data } (by simp) rfl);have vg:x 19= .bool true:=hx 19 (I { on:=19,ground:= .data } (by simp) rfl);refine q1f rfl rfl (q0k (v:= .bool true) ?_ ⟨L,upd x 20 _,hx.step (fun j v h=>h) rfl,rfl⟩);rw[q9,vg];go_simp
  ·cases ho;have v7:x 20= .bool true:=hx 20 (I { on:=20,ground:= .data } (by simp) rfl);refine q1f rfl rfl (q0k (v:= .bool true) ?_ ⟨L,upd x 21 _,hx.step (fun j v h=>h) rfl,rfl⟩);rw[v7];go_simp
  ·cases ho;have eg:x 21= .bool true:=hx 21 (I { on:=21,ground:= .guard } (by simp) rfl);refine q1c rfl (by rw[eg];rfl) (q0k (v:= .int .i64 M) ?_ ⟨L,upd x 22 _,hx.step (fun j v h=>h) rfl,rfl⟩);go_simp
  ·cases ho;have eg:x 21= .bool true:=hx 21 (I { on:=21,ground:= .guard } (by simp) rfl);refine q1c rfl (by rw[eg];rfl) (q0k (v:= .int .i64 M) ?_ ⟨L,upd x 23 _,hx.step (fun j v h=>h) rfl,rfl⟩);go_simp
  ·cases ho;have eg:x 21= .bool true:=hx 21 (I { on:=21,ground:= .guard } (by simp) rfl);have v0:x 22= .int .i64 M:=hx 22 (I { on:=22,ground:= .data } (by simp) rfl);have q7:x 23= .int .i64 M:=hx 23 (I { on:=23,ground:= .data } (by simp) rfl);refine q1c rfl (by rw[eg];rfl) (q0k (v:= .bool true) ?_ ⟨L,upd x 24 _,hx.step (fun j v h=>h) rfl,rfl⟩);rw[v0,q7];go_simp
  ·cases ho;have v9:x 21= .bool true:=hx 21 (I { on:=21,ground:= .data } (by simp) rfl);have v6:x 24= .bool true:=hx 24 (I { on:=24,ground:= .data } (by simp) rfl);refine q1f rfl rfl (q0k (v:= .bool true) ?_ ⟨L,upd x 25 _,hx.step (fun j v h=>h) rfl,rfl⟩);rw[v9,v6];go_simp
  ·cases ho;have qi:x 25= .bool true:=hx 25 (I { on:=25,ground:= .data } (by simp) rfl);refine q1f rfl rfl (q0k (v:= .bool true) ?_ ⟨L,upd x 26 _,hx.step (fun j v h=>h) rfl,rfl⟩);rw[qi];go_simp
  ·cases ho;have eg:x 26= .bool true:=hx 26 (I { on:=26,ground:= .guard } (by simp) rfl);have hl:=(KS.out X L).1.1;refine q1c rfl (by rw[eg];rfl) (q0k (v:= .agg #[.slice pa pn pc,.slice ra rn rc,.slice fa fn fc,.slice ka kn kc,.int .i64 hh,.int .i64 nn]) ?_ ⟨L,upd x 27 _,hx.step (fun j v h=>h) rfl,rfl⟩);go_simp
  ·cases ho;have eg:x 26= .bool true:=hx 26 (I { on:=26,ground:= .guard } (by simp) rfl);have hl:=(KS.out X L).1.2.1;refine q1c rfl (by rw[eg];rfl) (q0k (v:= .agg #[.slice hg pn hj,.slice h9 rn hf,.slice h7 fn h8,.slice ha kn h6,.int .i64 hh,.int .i64 nn]) ?_ ⟨L,upd x 28 _,hx.step (fun j v h=>h) rfl,rfl⟩);go_simp
  ·cases ho;have eg:x 26= .bool true:=hx 26 (I { on:=26,ground:= .guard } (by simp) rfl);have qk:x 27= .agg #[.slice pa pn pc,.slice ra rn rc,.slice fa fn fc,.slice ka kn kc,.int .i64 hh,.int .i64 nn]:=hx 27 (I { on:=27,ground:= .data } (by simp) rfl);have qg:x 28= .agg #[.slice hg pn hj,.slice h9 rn hf,.slice h7 fn h8,.slice ha kn h6,.int .i64 hh,.int .i64 nn]:=hx 28 (I { on:=28,ground:= .data } (by simp) rfl);refine q1c rfl (by rw[eg];rfl) (q4l (f:=17) (args:= #[x 27,x 28]) (by kernel_rfl) ?_);have C:=EF.out X L;rw[<- qk,<- qg] at C;refine C.mono ?_;rintro e X' ⟨rfl,h5⟩;exact⟨_,rfl,bx L h5,upd x 29 _,hx.step (ObF.bel h5) rfl,rfl⟩
  ·cases ho;have v8:x 26= .bool true:=hx 26 (I { on:=26,ground:= .data } (by simp) rfl);have zd:x 29= .bool true:=hx 29 (I { on:=29,ground:= .data } (by simp) rfl);refine q1f rfl rfl (q0k (v:= .bool true) ?_ ⟨L,upd x 30 _,hx.step (fun j v h=>h) rfl,rfl⟩);rw[v8,zd];go_simp
  ·cases ho;have kj:x 30= .bool true:=hx 30 (I { on:=30,ground:= .data } (by simp) rfl);refine q1f rfl rfl (q0k (v:= .bool true) ?_ ⟨L,upd x 31 _,hx.step (fun j v h=>h) rfl,rfl⟩);rw[kj];go_simp
  ·cases ho;have eg:x 31= .bool true:=hx 31 (I { on:=31,ground:= .guard } (by simp) rfl);refine q1c rfl (by rw[eg];rfl) (q0k (v:=ptrV m) ?_ ⟨L,upd x 32 _,hx.step (fun j v h=>h) rfl,rfl⟩);go_simp
  ·cases ho;have eg:x 31= .bool true:=hx 31 (I { on:=31,ground:= .guard } (by simp) rfl);have km:x 32=ptrV m:=hx 32 (I { on:=32,ground:= .data } (by simp) rfl);refine q1c rfl (by rw[eg];rfl) (q4l (f:=120) (args:= #[x 32]) (by kernel_rfl) ?_);have C:=IF.out X L;rw[<- km] at C;refine C.mono ?_;rintro e X' ⟨ia,ic,rfl,z8,h5⟩;exact⟨_,rfl,bx L h5,upd x 33 _,hx.step (ObF.bel h5) ⟨ia,ic,rfl,z8⟩,rfl⟩
  ·cases ho;have eg:x 31= .bool true:=hx 31 (I { on:=31,ground:= .guard } (by simp) rfl);obtain⟨ia,ic,kq,z8⟩:=hx 33 (I { on:=33,ground:= .data } (by simp) rfl);have hl:=z8 X (Below.refl _ _);refine q1c rfl (by rw[eg];rfl) (q0k (v:= .string S0) ?_ ⟨L,upd x 34 _,hx.step (fun j v h=>h) rfl,rfl⟩);rw[kq];go_simp
  ·cases ho;have eg:x 31= .bool true:=hx 31 (I { on:=31,ground:= .guard } (by simp) rfl);refine q1c rfl (by rw[eg];rfl) (q0k (v:= .slice p n cap) ?_ ⟨L,upd x 35 _,hx.step (fun j v h=>h) rfl,rfl⟩);go_simp
  ·cases ho;have eg:x 31= .bool true:=hx 31 (I { on:=31,ground:= .guard } (by simp) rfl);have zi:x 35= .slice p n cap:=hx 35 (I { on:=35,ground:= .data } (by simp) rfl);have hl:=(KS.out X L).1.2.2;refine q1c rfl (by rw[eg];rfl) (q0k (v:= .string S0) ?_ ⟨L,upd x 36 _,hx.step (fun j v h=>h) rfl,rfl⟩);rw[zi];go_simp
  ·cases ho;have eg:x 31= .bool true:=hx 31 (I { on:=31,ground:= .guard } (by simp) rfl);have kz:x 34= .string S0:=hx 34 (I { on:=34,ground:= .data } (by simp) rfl);have za:x 36= .string S0:=hx 36 (I { on:=36,ground:= .data } (by simp) rfl);refine q1c rfl (by rw[eg];rfl) (q0k (v:= .bool true) ?_ ⟨L,upd x 37 _,hx.step (fun j v h=>h) rfl,rfl⟩);rw[kz,za];go_simp
  ·cases ho;have kr:x 31= .bool true:=hx 31 (I { on:=31,ground:= .data } (by simp) rfl);have zh:x 37= .bool true:=hx 37 (I { on:=37,ground:= .data } (by simp) rfl);refine q1f rfl rfl (q0k (v:= .bool true) ?_ ⟨L,upd x 38 _,hx.step (fun j v h=>h) rfl,rfl⟩);rw[kr,zh];go_simp
  ·cases ho;have z9:x 38= .bool true:=hx 38 (I { on:=38,ground:= .data } (by simp) rfl);refine q1f rfl rfl (q0k (v:= .bool true) ?_ ⟨L,upd x 39 _,hx.step (fun j v h=>h) rfl,rfl⟩);rw[z9];go_simp
  ·cases ho;have eg:x 39= .bool true:=hx 39 (I { on:=39,ground:= .guard } (by simp) rfl);refine q1c rfl (by rw[eg];rfl) (q0k (v:=ptrV m) ?_ ⟨L,upd x 40 _,hx.step (fun j v h=>h) rfl,rfl⟩);go_simp
  ·cases ho;have eg:x 39= .bool true:=hx 39 (I { on:=39,ground:= .guard } (by simp) rfl);have z1:x 40=ptrV m:=hx 40 (I { on:=40,ground:= .data } (by simp) rfl);refine q1c rfl (by rw[eg];rfl) (q4l (f:=121) (args:= #[x 40]) (by kernel_rfl) ?_);have C:=NF.out X L;rw[<- z1] at C;refine C.mono ?_;rintro e X' ⟨⟨la,lc,rfl⟩,h5⟩;exact⟨_,rfl,bx L h5,upd x 41 _,hx.step (ObF.bel h5) ⟨la,lc,rfl⟩,rfl⟩
  ·cases ho;have eg:x 39= .bool true:=hx 39 (I { on:=39,ground:= .guard } (by simp) rfl);obtain⟨ia,ic,zg⟩:=hx 41 (I { on:=41,ground:= .data } (by simp) rfl);refine q1c rfl (by rw[eg];rfl) (q0k (v:= .int .i64 0) ?_ ⟨L,upd x 42 _,hx.step (fun j v h=>h) rfl,rfl⟩);rw[zg];go_simp
  ·cases ho;have eg:x 39= .bool true:=hx 39 (I { on:=39,ground:= .guard } (by simp) rfl);have kt:x 42= .int .i64 0:=hx 42 (I { on:=42,ground:= .data } (by simp) rfl);refine q1c rfl (by rw[eg];rfl) (q0k (v:= .bool true) ?_ ⟨L,upd x 43 _,hx.step (fun j v h=>h) rfl,rfl⟩);rw[kt];go_simp
  ·cases ho;have z6:x 39= .bool true:=hx 39 (I { on:=39,ground:= .data } (by simp) rfl);have z3:x 43= .bool true:=hx 43 (I { on:=43,ground:= .data } (by simp) rfl);refine q1f rfl rfl (q0k (v:= .bool true) ?_ ⟨L,upd x 44 _,hx.step (fun j v h=>h) rfl,rfl⟩);rw[z6,z3];go_simp
 ·rintro a X ⟨L,x,hx,rfl⟩;have vd:x 44= .bool true:=hx 44 rfl;rw[vd];simp only[List.drop_succ_cons,List.drop_zero];have qy:=hid (bx qh.out L);clear hx L;go_wp2;go_ret;exact⟨rfl,qy.out⟩
theorem v6h (v:Value) (bs:List Int) (w:World) (h:z0v w v bs) (hl:bs.length<=100000):
  Calls Tryz.prog 37 #[v] w fun e w'=>e= .returned (.bool true)/\Below w.heap.size w w':=by
 cases hm:mayB bs.length with
 | false=>exact v3k v bs w h hl hm
 | true=>exact x8k v bs w h hl hm
theorem z8n (w:World):Calls Tryz.prog 28 #[] w fun e w'=>e= .returned (.bool true)/\Below w.heap.size w w':=by
 have NM:=hid (y0p 2048 (by decide) w);obtain⟨Z,hZ⟩:∃Z:List Int,Z=List.replicate 2048 0:=⟨_,rfl⟩;have h6:∀x∈Z,0<=x/\x<256:=fun x hx=>by rw[hZ,List.mem_replicate] at hx;rw[hx.2];omega
 have h8:Z.length=8*256:=by rw[hZ];simp
 have hw:q0b Z=List.replicate 256 0:=by rw[hZ];exact q9m 2048
 have Y:∀w w' e,q3u Z w e w'->Below w.heap.size w w'/\z3f 0 0 6 [] [] [] [] e w':=fun w w' e h=>by rw[hZ] at h;obtain⟨rfl,h2⟩:=z6u v6c h;exact⟨h2,z1j w'⟩
 have HZ:=hid (⟨h6,h8,hw,Y⟩:_/\_/\_/\_);clear h6 h8 hw Y hZ;go_enter Tryz.func28,Tryz.ntmps28;go_wp2_with fail;refine NM.out.mono ?_;rintro e w2 ⟨m,B,rfl,hM,h5,h7⟩;have M:q4f w2 m B (q3y (q0b Z)):=by rw[HZ.out.2.2.1];exact hM
 have I:∀k∈q2g m B (q3y (q0b Z)),w.heap.size<=k:=by rw[HZ.out.2.2.1];exact fun k hk=>Bv (h7 k hk)
 have ON:=hid (x7q m B 256 ⟨0,0,0,0⟩ (by omega) (by omega) w2 (by have h1:=M.blk;have h2:(q3y (q0b Z)).view.length=256:=(by show(q0b Z).length=256;rw[HZ.out.2.2.1];simp);rw[h2] at h1;exact h1));have HM:=hid (⟨M,h5,I⟩:_/\_/\_);clear hM M h5 h7 I NM;go_wp2_with fail;refine(callsIn_wide.1 ON.out).mono ?_;rintro e w3 ⟨o,v,rfl,ho,h9,h3,O,h4,L⟩;obtain⟨tg,c,rfl,hL⟩:=z7b (N:=w.heap.size) HZ.out.2.1 (by omega) HM.out.1 HM.out.2.2 HM.out.2.1.size ho h3 O h4 L
 have OW:Hid (Calls Tryz.prog 31 #[ptrV m,.pointer (some ⟨o,0,none⟩),.int .i64 257] w3 fun e w'=>e= .returned (.int .i64 256)/\Below w.heap.size w3 w'/\
   ∃tv wv' pv rv fv kv,OpnD w' o m B (memK (q0b Z) 256) Z tv wv' true 6 0 0 [] [] [] [] pv rv fv kv):=hid (x2u w.heap.size o m B 256 c tg 257 Z HZ.out.1 HZ.out.2.1 (by omega) (by omega) (by omega) (by omega) 6 0 0 [] [] [] [] HZ.out.2.2.2 w3 hL)
 have ha:=hid (bx HM.out.2.1 L);clear ho h9 h3 O h4 L hL ON HM;go_wp2_with fail;refine OW.out.mono ?_;rintro e w4 ⟨rfl,S,tv,wv,pv,rv,fv,kv,hD⟩;have SD:=hid (z3t o m B _ _ hD.mem.pos hD.mem.big _ _ _ _ _ _ _ _ _ w4 hD.mem.blk hD.blk);have he:=hid (ha.out.trans S);clear hD OW S;go_wp2_with fail;refine SD.out.mono ?_;rintro e w5 ⟨rfl,U⟩;have hf:=hid (bx he.out U);clear U;go_wp2;go_ret;exact⟨rfl,hf.out⟩
end Go.Proofs.YtibiekfjbibpbaaGreat
