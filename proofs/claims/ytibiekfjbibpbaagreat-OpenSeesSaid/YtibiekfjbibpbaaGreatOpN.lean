import Derived.Test.YtibiekfjbibpbaaGreatOpM
import Derived.Test.YtibiekfjbibpbaaGreatRegI
set_option maxRecDepth 100000
set_option maxHeartbeats 4000000
set_option linter.unusedVariables false
set_option linter.unusedSimpArgs false
namespace Go.Proofs.YtibiekfjbibpbaaGreat
open Go.RowKit
theorem adP (b off j:Nat):(⟨b,off,none⟩:Addr).add j=⟨b,off+j,none⟩:=by cases j<;>simp[Addr.add]
@[go_sem] theorem v7t (a:Option Addr) (n c:Nat) (w:World):(binOp .eql 30 (.slice a n c) (.slice none 0 0)).run Tryz.prog w= .ok (.bool a.isNone) w:=by simp[binOp,run_equal_slice_nil w 30 51 a n c Tryz.underlying30]
@[go_sem] theorem v9l (a:Option Addr) (n c:Nat) (w:World):(binOp .eql 29 (.slice a n c) (.slice none 0 0)).run Tryz.prog w= .ok (.bool a.isNone) w:=by simp[binOp,run_equal_slice_nil w 29 48 a n c Tryz.underlying29]
theorem z5h (v:Value) (xs:List Int) (w:World) (h:q1w .u64 w v xs) (hn:xs.length<=1000000):
  Calls Tryz.prog 113 #[v] w fun e w'=> ∃v',e= .returned v'/\rowU w' w.heap.size v' xs/\Below w.heap.size w w':=by
 obtain⟨ao,cap,rfl,h2⟩:=h;obtain⟨n,M⟩:∃n,n=xs.length:=⟨_,rfl⟩;rw[<- M];cases ao with
 | none=>
  have hx:xs=[]:=h2.resolve_right (by rintro⟨b,off,h,_⟩;cases h);have h0:n=0:=by rw[M,hx];rfl
  subst hx h0;clear h2 M hn;go_enter Tryz.func113,Tryz.ntmps113;go_wp2;go_ret;exact⟨_,rfl,World.ownsRow_nil _ _ _ _,Below.refl _ _⟩
 | some p=>
  obtain⟨i0,hi,U,h3,Y⟩:=info_parts q9s
  have L:∀j u,(xs.map (Value.int .u64))[j]?=some u->(w.alloc (.cells #[] 51)).cell? (p.add j)=some u:=by
   intro j u hj;rw[AM] at hj;obtain⟨x,hx,rfl⟩:=BX.1 hj;rcases h2 with h2|⟨b,off,hp,_,h5⟩;·rw[h2] at hx;simp at hx
   ·injection hp with hp;rw[hp];have h9:=ca (.cells #[] 51) (h5 j x hx);rw[adP];exact h9
  have H3:=hid (show 0+n<=maxLen by unfold maxLen;omega);have H4:=hid (show(0+n)*8<=140737488355328 by omega);have HL:=hid (show(xs.map (Value.int .u64)).length=n*1 by rw[AO,<- M,Ca]);have HO:=hid (show ∀v∈xs.map (Value.int .u64),v.oneCell'=true by intro u hu;obtain⟨y,_,rfl⟩:=Aj.1 hu;rfl);have HN:=hid L;have h1:=hid M;have I:(w.alloc (.cells #[] 51)).ownsRow w.heap.size 51 1 (.slice (some ⟨w.heap.size,0,none⟩) 0 0) 0 []:=by have:=World.ownsRow_lit (base:=w.heap.size) (e:=51) (size:=1) w #[] 0 (AG _) (Af _) rfl;simpa using this
  have HE:=hid I;clear I L h2 M hn;go_enter Tryz.func113,Tryz.ntmps113;go_wp2_with (at_builtin;refine wpList_append_own_at _ rfl _ _ 30 rfl w.heap.size 51 i0 (.int .u64 0) 1 8 Tryz.underlying30 hi U h3 Y rfl (by decide) (.slice (some ⟨w.heap.size,0,none⟩) 0 0) 0 [] rfl HE.out p n cap _ rfl HL.out HN.out HO.out H3.out H4.out (by simp) ?_;intro v' w1 O S _ h4);go_ret;refine⟨_,rfl,by have h9:=O;rw[AQ,h1.out] at h9;simpa using h9,?_⟩
  exact((Below.refl _ w).alloc (AG _) _).grown S (by simp) (fun k hk=>by
   have:w.heap.size=k:=by simpa[Value.ownBlock] using hk
   omega)
theorem v2j (v:Value) (ps:List (Int×ByteArray)) (w:World) (h:q1b w v ps.length (ps.flatMap q5v)) (hn:ps.length<=1000000):
  Calls Tryz.prog 112 #[v] w fun e w'=> ∃v',e= .returned v'/\w'.ownsRow w.heap.size 48 2 v' ps.length (ps.flatMap q5v)/\Below w.heap.size w w':=by
 have Y:(ps.flatMap q5v).length=ps.length*2:=by
  clear h hn
  induction ps with
  | nil=>rfl
  | cons p ps ih=>rw[Ap,AI,ih,BE];simp[q5v];omega
 have M:∀v∈ps.flatMap q5v,v.oneCell'=true:=by intro u hu;obtain⟨p,_,hp⟩:=Bq.1 hu;simp only[q5v,List.mem_cons,List.not_mem_nil,or_false] at hp;rcases hp with rfl|rfl<;>rfl
 obtain⟨n,U⟩:∃n,n=ps.length:=⟨_,rfl⟩;rw[<- U] at h ⊢;rcases h with⟨rfl,h0,h1⟩|⟨b,off,cap,rfl,h2⟩;·rw[h1];subst h0;clear U hn Y M h1;go_enter Tryz.func112,Tryz.ntmps112;go_wp2;go_ret;exact⟨_,rfl,World.ownsRow_nil _ _ _ _,Below.refl _ _⟩
 ·obtain⟨i0,hi,h3,h5,h4⟩:=info_parts z4t;have L:∀j u,(ps.flatMap q5v)[j]?=some u->(w.alloc (.cells #[] 48)).cell? ((⟨b,off,none⟩:Addr).add j)=some u:=fun j u hj=>by have h9:=ca (.cells #[] 48) (h2 j u hj);rw[adP];exact h9
  have H3:=hid (show 0+n<=maxLen by unfold maxLen;omega);have H4:=hid (show(0+n)*24<=140737488355328 by omega);have HL:=hid (show(ps.flatMap q5v).length=n*2 by rw[Y,U]);have HO:=hid M;have HN:=hid L;have I:(w.alloc (.cells #[] 48)).ownsRow w.heap.size 48 2 (.slice (some ⟨w.heap.size,0,none⟩) 0 0) 0 []:=by have:=World.ownsRow_lit (base:=w.heap.size) (e:=48) (size:=2) w #[] 0 (AG _) (Af _) rfl;simpa using this
  have HE:=hid I;clear I L h2 U hn Y M;go_enter Tryz.func112,Tryz.ntmps112;go_wp2_with (at_builtin;refine wpList_append_own_at _ rfl _ _ 29 rfl w.heap.size 48 i0 (.agg #[.int .u64 0,.string ⟨#[]⟩]) 2 24 Tryz.underlying29 hi h3 h5 h4 rfl (by decide) (.slice (some ⟨w.heap.size,0,none⟩) 0 0) 0 [] rfl HE.out ⟨b,off,none⟩ n cap _ rfl HL.out HN.out HO.out H3.out H4.out (by simp) ?_;intro v' w1 O S _ h6);go_ret;refine⟨_,rfl,by simpa using O,?_⟩
  exact((Below.refl _ w).alloc (AG _) _).grown S (by simp) (fun k hk=>by
   have:w.heap.size=k:=by simpa[Value.ownBlock] using hk
   omega)
def RepF (N T:Nat) (pv rv fv kv:Value) (ps:List (Int×ByteArray)) (R F K:List Int):Nat->Value->World->Prop
 | 0,v,_=>v= .pointer (some ⟨T,0,none⟩)
 | 1,v,_=>v=pv
 | 2,v,w=>(∃a c,v= .slice a ps.length c)/\w.ownsRow N 48 2 v ps.length (ps.flatMap q5v)
 | 3,v,_=>v= .pointer (some ⟨T,1,none⟩)
 | 4,v,_=>v=rv
 | 5,v,w=>(∃a c,v= .slice a R.length c)/\rowU w N v R
 | 6,v,_=>v= .pointer (some ⟨T,2,none⟩)
 | 7,v,_=>v=fv
 | 8,v,w=>(∃a c,v= .slice a F.length c)/\rowU w N v F
 | 9,v,_=>v= .pointer (some ⟨T,3,none⟩)
 | 10,v,_=>v=kv
 | 11,v,w=>(∃a c,v= .slice a K.length c)/\rowU w N v K
 | 12,v,_=>v= .pointer (some ⟨T,0,none⟩)
 | _,_,_=>True
theorem RepF.bel {N T:Nat} {pv rv fv kv:Value} {ps:List (Int×ByteArray)} {R F K:List Int} {w w':World} (hb:Below w.heap.size w w'):∀j v,RepF N T pv rv fv kv ps R F K j v w->RepF N T pv rv fv kv ps R F K j v w':=by
 have ho:Only [] w w':=Only.of_below hb [];intro j v h
 match j,h with
 | 0,h=>exact h
 | 1,h=>exact h
 | 2,h=>exact⟨h.1,ho.own h.2 (by simp)⟩
 | 3,h=>exact h
 | 4,h=>exact h
 | 5,h=>exact⟨h.1,ho.own h.2 (by simp)⟩
 | 6,h=>exact h
 | 7,h=>exact h
 | 8,h=>exact⟨h.1,ho.own h.2 (by simp)⟩
 | 9,h=>exact h
 | 10,h=>exact h
 | 11,h=>exact⟨h.1,ho.own h.2 (by simp)⟩
 | 12,h=>exact h
 | _+13,_=>trivial
def v9b (w:World) (err h nn:Int) (ps:List (Int×ByteArray)) (R F K:List Int) (e:Ending) (w':World):Prop:=
 ∃pa pc ra rc fa fc ka kc,e= .returned (.tuple #[.agg #[.slice pa ps.length pc,.slice ra R.length rc,.slice fa F.length fc,.slice ka K.length kc,.int .i64 h,.int .i64 nn],.int .i64 err])/\
  w'.ownsRow w.heap.size 48 2 (.slice pa ps.length pc) ps.length (ps.flatMap q5v)/\rowU w' w.heap.size (.slice ra R.length rc) R/\rowU w' w.heap.size (.slice fa F.length fc) F/\rowU w' w.heap.size (.slice ka K.length kc) K/\Below w.heap.size w w'
theorem x4u (o m:Nat) (B:MB) (M:MemS) (bs:List Int) (tv wv:Value) (h nn:Int) (ps:List (Int×ByteArray)) (R F K:List Int) (pa ra fa ka:Option Addr) (pc rc fc kc:Nat) (h7:ps.length<=1000000/\R.length<=1000000/\F.length<=1000000/\K.length<=1000000) (w:World)
  (H:OpnD w o m B M bs tv wv true 0 h nn ps R F K (.slice pa ps.length pc) (.slice ra R.length rc) (.slice fa F.length fc) (.slice ka K.length kc)):
  Calls Tryz.prog 33 #[.pointer (some ⟨o,0,none⟩)] w (v9b w 0 h nn ps R F K):=by
 obtain⟨W1,hh⟩:∃W1,W1=w.alloc (.cells #[.slice none 0 0,.slice none 0 0,.slice none 0 0,.slice none 0 0,.int .i64 0,.int .i64 0] 32):=⟨_,rfl⟩;have hj:Below w.heap.size w W1:=by rw[hh];exact ba (Below.refl _ _) _
 have H1:=H.bel hj;have OV:=hid (x8i o m B M.view.length M.st H.mem.pos H.mem.big tv wv true _ _ _ _ h nn 0 W1 H1.mem.blk H1.blk);have y6:W1.cell? ⟨o,6,none⟩=some (.slice pa ps.length pc):=H1.blk.cell 6;have y7:W1.cell? ⟨o,7,none⟩=some (.slice ra R.length rc):=H1.blk.cell 7;have y8:W1.cell? ⟨o,8,none⟩=some (.slice fa F.length fc):=H1.blk.cell 8;have y9:W1.cell? ⟨o,9,none⟩=some (.slice ka K.length kc):=H1.blk.cell 9;have k3:W1.cell? ⟨o,10,none⟩=some (.int .i64 h):=H1.blk.cell 10;have k0:W1.cell? ⟨o,11,none⟩=some (.int .i64 nn):=H1.blk.cell 11;obtain⟨pn,hp⟩:∃pn,pn=ps.length:=⟨_,rfl⟩;obtain⟨rn,hg⟩:∃rn,rn=R.length:=⟨_,rfl⟩;obtain⟨fn,hl⟩:∃fn,fn=F.length:=⟨_,rfl⟩;obtain⟨kn,hm⟩:∃kn,kn=K.length:=⟨_,rfl⟩;rw[<- hp] at y6;rw[<- hg] at y7;rw[<- hl] at y8;rw[<- hm] at y9;have HL:=hid h7;have HR:=hid H1.rep;have h9:=hid hh;have hy:=hid hj;have S:=hid (⟨hp,hg,hl,hm⟩:_/\_/\_/\_);clear H H1 hj hh h7 hp hg hl hm;go_enter Tryz.func33,Tryz.ntmps33;go_wp2_with fail;rw[show _=W1 from h9.out.symm];refine OV.out.mono ?_;rintro e w2 ⟨rfl,rfl⟩;go_upto_region 5 with fail;obtain⟨T,hT⟩:∃T,T=w2.heap.size:=⟨_,rfl⟩;obtain⟨W4,ha⟩:∃W4,W4=w2.alloc (.cells #[.slice pa pn pc,.slice ra rn rc,.slice fa fn fc,.slice ka kn kc,.int .i64 h,.int .i64 nn] 32):=⟨_,rfl⟩;rw[<- ha];rw[<- hT];have h8:Below w2.heap.size w2 W4:=by rw[ha];exact ba (Below.refl _ _) _
 have ht:=hid (show w2.heap.size=w.heap.size+1 by rw[h9.out];simp);have kT:Blk W4 T 32 #[.slice pa pn pc,.slice ra rn rc,.slice fa fn fc,.slice ka kn kc,.int .i64 h,.int .i64 nn]:=by rw[ha,hT];exact Blk.new _ _ _
 have hs:Blk W4 w.heap.size 32 #[.slice none 0 0,.slice none 0 0,.slice none 0 0,.slice none 0 0,.int .i64 0,.int .i64 0]:=by have:=Blk.new w 32 #[.slice none 0 0,.slice none 0 0,.slice none 0 0,.slice none 0 0,.int .i64 0,.int .i64 0];rw[<- h9.out] at this;exact this.bel h8
 have hz:=HR.out.bel h8;have O:=hid (⟨kT,hs,bx hy.out h8,hT⟩:_/\_/\_/\_);have he:=hid hz;clear y6 y7 y8 y9 k3 k0 hT ha h8 kT hs hz HR OV h9 hy;refine q9z 13 (fun listed a X=>Below W4.heap.size W4 X/\ ∃x:Nat->Value,z8q (RepF W4.heap.size T (.slice pa pn pc) (.slice ra rn rc) (.slice fa fn fc) (.slice ka kn kc) ps R F K) listed x X/\a={ tmps:= #[.pointer (some ⟨o,0,none⟩),undef,.pointer (some ⟨w.heap.size,0,none⟩),.int .i64 0,.int .i64 0,.pointer (some ⟨T,0,none⟩),.pointer (some ⟨o,0,none⟩),.int .i64 0,.int .i64 0,.bool false,undef,undef,.pointer (some ⟨o,0,none⟩),.pointer (some ⟨o,0,none⟩),.pointer (some ⟨o,6,none⟩),.agg #[.slice pa pn pc,.slice ra rn rc,.slice fa fn fc,.slice ka kn kc,.int .i64 h,.int .i64 nn],x 0,x 1,x 2,x 3,x 4,x 5,x 6,x 7,x 8,x 9,x 10,x 11,x 12,undef,undef,undef,undef],defers:=[] }) rfl (by kernel_rfl) ?_ ?_ ?_;·exact⟨(Below.refl _ _).drew,fun _=>undef,fun i hi=>(by rw[getD_replicate_false] at hi;cases hi),rfl⟩
 ·rintro listed a X i op hi ho k9 L ⟨I,x,hx,rfl⟩;rcases(by omega:i=0\/i=1\/i=2\/i=3\/i=4\/i=5\/i=6\/i=7\/i=8\/i=9\/i=10\/i=11\/i=12) with rfl|rfl|rfl|rfl|rfl|rfl|rfl|rfl|rfl|rfl|rfl|rfl|rfl;·cases ho;exact q1f rfl rfl (q0k (v:= .pointer (some ⟨T,0,none⟩)) (by kernel_rfl) ⟨I,upd x 0 _,hx.step (fun j v h=>h) rfl,rfl⟩)
  ·cases ho;have e:x 0= .pointer (some ⟨T,0,none⟩):=hx 0 (L { on:=0,ground:= .data } (by simp) rfl);have z:X.cell? ⟨T,0,none⟩=some (.slice pa pn pc):=(O.out.1.bel I).cell 0;refine q1f rfl rfl (q0k (v:= .slice pa pn pc) ?_ ⟨I,upd x 1 _,hx.step (fun j v h=>h) rfl,rfl⟩);rw[e];go_simp
  ·cases ho;have e:x 1= .slice pa pn pc:=hx 1 (L { on:=1,ground:= .data } (by simp) rfl);refine q1f rfl rfl (q4l (f:=112) (args:= #[x 1]) (by kernel_rfl) ?_);have C:Calls Tryz.prog 112 #[x 1] X fun e w'=> ∃v',e= .returned v'/\w'.ownsRow X.heap.size 48 2 v' ps.length (ps.flatMap q5v)/\Below X.heap.size X w':=by rw[e,S.out.1];exact v2j _ ps X (he.out.pa.bel I) HL.out.1
   refine C.mono ?_;rintro e X' ⟨v,rfl,h1,h2⟩;exact⟨v,rfl,I.trans (h2.mono I.size),upd x 2 _,hx.step (RepF.bel h2) ⟨q0q h1,q8j h1 I.size⟩,rfl⟩
  ·cases ho;exact q1f rfl rfl (q0k (v:= .pointer (some ⟨T,1,none⟩)) (by kernel_rfl) ⟨I,upd x 3 _,hx.step (fun j v h=>h) rfl,rfl⟩)
  ·cases ho;have e:x 3= .pointer (some ⟨T,1,none⟩):=hx 3 (L { on:=3,ground:= .data } (by simp) rfl);have z:X.cell? ⟨T,1,none⟩=some (.slice ra rn rc):=(O.out.1.bel I).cell 1;refine q1f rfl rfl (q0k (v:= .slice ra rn rc) ?_ ⟨I,upd x 4 _,hx.step (fun j v h=>h) rfl,rfl⟩);rw[e];go_simp
  ·cases ho;have e:x 4= .slice ra rn rc:=hx 4 (L { on:=4,ground:= .data } (by simp) rfl);refine q1f rfl rfl (q4l (f:=113) (args:= #[x 4]) (by kernel_rfl) ?_);have C:Calls Tryz.prog 113 #[x 4] X fun e w'=> ∃v',e= .returned v'/\rowU w' X.heap.size v' R/\Below X.heap.size X w':=by rw[e,S.out.2.1];exact z5h _ R X (he.out.ra.bel I) HL.out.2.1
   refine C.mono ?_;rintro e X' ⟨v,rfl,h1,h2⟩;exact⟨v,rfl,I.trans (h2.mono I.size),upd x 5 _,hx.step (RepF.bel h2) ⟨q0q h1,q8j h1 I.size⟩,rfl⟩
  ·cases ho;exact q1f rfl rfl (q0k (v:= .pointer (some ⟨T,2,none⟩)) (by kernel_rfl) ⟨I,upd x 6 _,hx.step (fun j v h=>h) rfl,rfl⟩)
  ·cases ho;have e:x 6= .pointer (some ⟨T,2,none⟩):=hx 6 (L { on:=6,ground:= .data } (by simp) rfl);have z:X.cell? ⟨T,2,none⟩=some (.slice fa fn fc):=(O.out.1.bel I).cell 2;refine q1f rfl rfl (q0k (v:= .slice fa fn fc) ?_ ⟨I,upd x 7 _,hx.step (fun j v h=>h) rfl,rfl⟩);rw[e];go_simp
  ·cases ho;have e:x 7= .slice fa fn fc:=hx 7 (L { on:=7,ground:= .data } (by simp) rfl);refine q1f rfl rfl (q4l (f:=113) (args:= #[x 7]) (by kernel_rfl) ?_);have C:Calls Tryz.prog 113 #[x 7] X fun e w'=> ∃v',e= .returned v'/\rowU w' X.heap.size v' F/\Below X.heap.size X w':=by rw[e,S.out.2.2.1];exact z5h _ F X (he.out.fa.bel I) HL.out.2.2.1
   refine C.mono ?_;rintro e X' ⟨v,rfl,h1,h2⟩;exact⟨v,rfl,I.trans (h2.mono I.size),upd x 8 _,hx.step (RepF.bel h2) ⟨q0q h1,q8j h1 I.size⟩,rfl⟩
  ·cases ho;exact q1f rfl rfl (q0k (v:= .pointer (some ⟨T,3,none⟩)) (by kernel_rfl) ⟨I,upd x 9 _,hx.step (fun j v h=>h) rfl,rfl⟩)
  ·cases ho;have e:x 9= .pointer (some ⟨T,3,none⟩):=hx 9 (L { on:=9,ground:= .data } (by simp) rfl);have z:X.cell? ⟨T,3,none⟩=some (.slice ka kn kc):=(O.out.1.bel I).cell 3;refine q1f rfl rfl (q0k (v:= .slice ka kn kc) ?_ ⟨I,upd x 10 _,hx.step (fun j v h=>h) rfl,rfl⟩);rw[e];go_simp
  ·cases ho;have e:x 10= .slice ka kn kc:=hx 10 (L { on:=10,ground:= .data } (by simp) rfl);refine q1f rfl rfl (q4l (f:=113) (args:= #[x 10]) (by kernel_rfl) ?_);have C:Calls Tryz.prog 113 #[x 10] X fun e w'=> ∃v',e= .returned v'/\rowU w' X.heap.size v' K/\Below X.heap.size X w':=by rw[e,S.out.2.2.2];exact z5h _ K X (he.out.ka.bel I) HL.out.2.2.2
   refine C.mono ?_;rintro e X' ⟨v,rfl,h1,h2⟩;exact⟨v,rfl,I.trans (h2.mono I.size),upd x 11 _,hx.step (RepF.bel h2) ⟨q0q h1,q8j h1 I.size⟩,rfl⟩
  ·cases ho;exact q1f rfl rfl (q0k (v:= .pointer (some ⟨T,0,none⟩)) (by kernel_rfl) ⟨I,upd x 12 _,hx.step (fun j v h=>h) rfl,rfl⟩)
 ·rintro a X ⟨I,x,hx,rfl⟩;have Y:∀i,i<13->RepF W4.heap.size T (.slice pa pn pc) (.slice ra rn rc) (.slice fa fn fc) (.slice ka kn kc) ps R F K i (x i) X:=fun i hi=>hx i (by rcases(by omega:i=0\/i=1\/i=2\/i=3\/i=4\/i=5\/i=6\/i=7\/i=8\/i=9\/i=10\/i=11\/i=12) with rfl|rfl|rfl|rfl|rfl|rfl|rfl|rfl|rfl|rfl|rfl|rfl|rfl<;>rfl);have hr:x 12= .pointer (some ⟨T,0,none⟩):=Y 12 (by omega);obtain⟨⟨a1,q1,e2⟩,r1⟩:=Y 2 (by omega);obtain⟨⟨a2,q2,e5⟩,r2⟩:=Y 5 (by omega);obtain⟨⟨a3,q3,e8⟩,r3⟩:=Y 8 (by omega);obtain⟨⟨a4,q4,hf⟩,r4⟩:=Y 11 (by omega);rw[e2] at r1;rw[e5] at r2;rw[e8] at r3;rw[hf] at r4;rw[e2,e5,e8,hf,hr];rw[<- S.out.1,<- S.out.2.1,<- S.out.2.2.1,<- S.out.2.2.2];generalize x 0=u0;generalize x 1=u1;generalize x 3=u3;generalize x 4=u4;generalize x 6=u6;generalize x 7=u7;generalize x 9=u9;generalize x 10=u10;have hT:=O.out.1.bel I;have h2:=O.out.2.1.bel I;have hq: ¬w.heap.size=T:=by have:=O.out.1.lt;have h3:=O.out.2.2.2;have h4:=O.out.2.2.1.size;have h5:=ht.out;omega
  have k4: ¬T=w.heap.size:=fun e=>hq e.symm;have c0:X.cell? ⟨T,0,none⟩=some (.slice pa pn pc):=hT.cell 0;have f0:=hT.frozen 0;have c1:X.cell? ⟨T,1,none⟩=some (.slice ra rn rc):=hT.cell 1;have f1:=hT.frozen 1;have c2:X.cell? ⟨T,2,none⟩=some (.slice fa fn fc):=hT.cell 2;have f2:=hT.frozen 2;have c3:X.cell? ⟨T,3,none⟩=some (.slice ka kn kc):=hT.cell 3;have f3:=hT.frozen 3;have c4:X.cell? ⟨T,4,none⟩=some (.int .i64 h):=hT.cell 4;have c5:X.cell? ⟨T,5,none⟩=some (.int .i64 nn):=hT.cell 5;have d0:X.cell? ⟨w.heap.size,0,none⟩=some (.slice none 0 0):=h2.cell 0;have g0:=h2.frozen 0;have d1:X.cell? ⟨w.heap.size,1,none⟩=some (.slice none 0 0):=h2.cell 1;have g1:=h2.frozen 1;have d2:X.cell? ⟨w.heap.size,2,none⟩=some (.slice none 0 0):=h2.cell 2;have g2:=h2.frozen 2;have d3:X.cell? ⟨w.heap.size,3,none⟩=some (.slice none 0 0):=h2.cell 3;have g3:=h2.frozen 3;have d4:X.cell? ⟨w.heap.size,4,none⟩=some (.int .i64 0):=h2.cell 4;have g4:=h2.frozen 4;have d5:X.cell? ⟨w.heap.size,5,none⟩=some (.int .i64 0):=h2.cell 5;have g5:=h2.frozen 5;have k8:=hid (⟨I,r1,r2,r3,r4,hT,h2⟩:_/\_/\_/\_/\_/\_/\_);clear I r1 r2 r3 r4 hT h2 hx Y e2 e5 e8 hf hr;simp only[List.drop_succ_cons,List.drop_zero];go_wp2_with fail;obtain⟨V,hV⟩:∃V,V=((((((((((X).setCell ⟨T,0,none⟩ (.slice a1 pn q1)).setCell ⟨T,1,none⟩ (.slice a2 rn q2)).setCell ⟨T,2,none⟩ (.slice a3 fn q3)).setCell ⟨T,3,none⟩ (.slice a4 kn q4)).setCell ⟨w.heap.size,0,none⟩ (.slice a1 pn q1)).setCell ⟨w.heap.size,1,none⟩ (.slice a2 rn q2)).setCell ⟨w.heap.size,2,none⟩ (.slice a3 fn q3)).setCell ⟨w.heap.size,3,none⟩ (.slice a4 kn q4)).setCell ⟨w.heap.size,4,none⟩ (.int .i64 h)).setCell ⟨w.heap.size,5,none⟩ (.int .i64 nn):=⟨_,rfl⟩;rw[<- hV];obtain⟨I,r1,r2,r3,r4,hT,h2⟩:=k8.out;have h6:Only [w.heap.size,T] X V:=by rw[hV];exact(((((((((((Only.refl _ _).setCell (Or.inl (by simp)) _).setCell (Or.inl (by simp)) _).setCell (Or.inl (by simp)) _).setCell (Or.inl (by simp)) _).setCell (Or.inl (by simp)) _).setCell (Or.inl (by simp)) _).setCell (Or.inl (by simp)) _).setCell (Or.inl (by simp)) _).setCell (Or.inl (by simp)) _).setCell (Or.inl (by simp)) _)
  have k7:Blk V w.heap.size 32 #[.slice a1 pn q1,.slice a2 rn q2,.slice a3 fn q3,.slice a4 kn q4,.int .i64 h,.int .i64 nn]:=by rw[hV];exact(((((((((((Only.refl [T] X).setCell (Or.inl (by simp)) _).setCell (Or.inl (by simp)) _).setCell (Or.inl (by simp)) _).setCell (Or.inl (by simp)) _).blk h2 (by simpa using hq)).set_ 0 _).set_ 1 _).set_ 2 _).set_ 3 _).set_ 4 _).set_ 5 _
  have k5:=k7.lv (P:=Tryz.prog) Tryz.underlying32 rfl (by kernel_rfl);have hlt:∀k,W4.heap.size<=k->k∉ [w.heap.size,T]:=fun k hk hc=>by have h3:=O.out.1.lt;have h4:=O.out.2.1.lt;simp only[List.mem_cons,List.not_mem_nil,or_false] at hc;omega
  have U:w.heap.size<=W4.heap.size:=O.out.2.2.1.size;have k1:Below w.heap.size w V:=(O.out.2.2.1.trans (I.mono U)).trans (h6.below (fun k hk=>by have h4:=O.out.2.2.2;have h5:=ht.out;simp only[List.mem_cons,List.not_mem_nil,or_false] at hk;omega) (AH U I.size));have s1:=q8j (h6.own r1 (fun k hk=>hlt k (q3c r1 k hk).1)) U;have s2:=q8j (h6.own r2 (fun k hk=>hlt k (q1d r2 k hk).1)) U;have s3:=q8j (h6.own r3 (fun k hk=>hlt k (q1d r3 k hk).1)) U;have s4:=q8j (h6.own r4 (fun k hk=>hlt k (q1d r4 k hk).1)) U;refine bodyPost_ret (v:= .tuple #[.agg #[.slice a1 pn q1,.slice a2 rn q2,.slice a3 fn q3,.slice a4 kn q4,.int .i64 h,.int .i64 nn],.int .i64 0]) (q0y rfl _ _ _ _ _ rfl rfl k5) rfl ?_;rw[S.out.1,S.out.2.1,S.out.2.2.1,S.out.2.2.2];exact⟨a1,q1,a2,q2,a3,q3,a4,q4,rfl,s1,s2,s3,s4,k1⟩
theorem x4k (p:Option Addr) (q n cap:Nat) (hn:n=8*q) (hq:q<=1000000) (w:World):
  Calls Tryz.prog 32 #[.slice p n cap] w fun e w'=>e= .returned (.int .i64 (q:Int))/\w'=w:=by
 have h1:IntKind.i64.wrap ((n:Int).tdiv 8)=(q:Int):=by rw[IntWalk.i64_in _ (by rw[Bg (by omega)];omega),Bg (by omega)];omega
 have h2:(n:Int)/8=q:=by omega
 have HN:=hid hn;clear hn;go_enter Tryz.func32,Tryz.ntmps32;go_wp2;go_ret;exact⟨by simp[*],rfl⟩
end Go.Proofs.YtibiekfjbibpbaaGreat
