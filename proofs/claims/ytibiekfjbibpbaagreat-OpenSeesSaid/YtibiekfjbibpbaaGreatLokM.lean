import Derived.Test.YtibiekfjbibpbaaGreatRepM
set_option maxRecDepth 100000
set_option maxHeartbeats 1000000
set_option linter.unusedVariables false
set_option linter.unusedSimpArgs false
namespace Go.Proofs.YtibiekfjbibpbaaGreat
open Go.RowKit
section
attribute [local go_sem ↓ high] q0v
attribute [local go_sem] Oper.semAt_some q0h
theorem v2g (ps:Array (Nat×Value)):Instr.build 32 ps=bldM 32 ps:=rfl
theorem x4d (p v:Value):Instr.storeAt 32 p v=stM 32 p v:=rfl
attribute [local go_sem ↓ high] v2g x4d
attribute [local go_sem] q2t q1v
theorem v4g:∀(es:List MapEntry) (R:List Int),es.map z9i=R.map isU-> ∃ks:List KeyA,ks.map keyE=es/\ks.map (·.adr)=R
 | [],[],_=>⟨[],rfl,rfl⟩
 | [],_::_,h=>by simp at h
 | _::_,[],h=>by simp at h
 | e::es,a::R,h=>by simp only[List.map_cons,List.cons.injEq] at h;obtain⟨ks,h1,h2⟩:=v4g es R h.2;refine⟨⟨a,e.born⟩::ks,?_,by rw[Be,h2]⟩;rw[Be,h1];have h3:(e.key,e.val)=(Value.int .u64 a,Value.agg #[]):=h.1;injection h3 with h3 h4;cases e;simp only at h3 h4;subst h3 h4;rfl
theorem q7g.keys {w:World} {mb:Nat} {R:List Int} (h:q7g w mb R):∃(ks:List KeyA) (ck:Nat),w.heap[mb]?=some (.map (ks.map keyE).toArray ck)/\ks.map (·.adr)=R/\(ks.Pairwise fun a b=>a.born≠b.born)/\ ∀L∈ks,L.born<ck:=by
 obtain⟨es,cl,h1,h2,h3,h4⟩:=h;obtain⟨ks,e1,e2⟩:=v4g _ _ h2;have e3:es=(ks.map keyE).toArray:=by rw[e1]
 have e4:ks.map (·.born)=es.toList.map (·.born):=by rw[<- e1,BU];rfl
 refine⟨ks,cl,by rw[<- e3];exact h1,e2,?_,fun L hL=>h4 _ (by rw[<- e4];exact By hL)⟩;rw[<- e4] at h3;exact CI.1 h3
def v1c (bs:List Int) (rb:Nat) (w w':World):Prop:=
 ∃rs ps leaves R W1 B pv rv fv kv,q1a bs rs ps/\rs.getLast?=some leaves/\R.Perm (allA rs++(allE leaves).map (·.2))/\R.Pairwise (· <= ·)/\Below w.heap.size w W1/\q9k W1 w.heap.size B pv ps/\
  LokI W1 rb pv rv fv kv (rs.length-1:Int) (q2y rs) R (R.filter fun a=> !x3m bs a) (z8p bs R) w'
def x1g (bs:List Int) (w w':World):Prop:=(∀rs ps,¬q1a bs rs ps)/\Below w.heap.size w w'
def q4q (rs:List (List (Int×NodeA))) (i:Nat):Int:=(((rs.take i).map List.length).sum:Nat)
theorem z6f (rs:List (List (Int×NodeA))):q4q rs rs.length=q2y rs:=by unfold q4q q2y;rw[BH]
theorem z0w {rs:List (List (Int×NodeA))} {i:Nat} {row:List (Int×NodeA)} (h:rs[i]?=some row):q4q rs (i+1)=q4q rs i+row.length:=by unfold q4q;rw[Ai,h];simp
theorem z4r {rs:List (List (Int×NodeA))} {m:Nat} (h:∀row∈rs,row.length<=m):∀i,i<=rs.length->0<=q4q rs i/\q4q rs i<=i*m
 | 0,_=>by unfold q4q;simp
 | i+1,hi=>by
  have hx:rs[i]?=some rs[i]:=AD (by omega);have h1:=z4r h i (by omega);have h2:=h _ (AJ hx);rw[z0w hx];have h3:((i+1:Nat):Int)*(m:Int)=(i:Int)*m+m:=by rw[Int.natCast_add];simp[Int.add_mul]
  rw[h3];omega
theorem v3m {W1 v W3:World} {N0 xb lb g m cp mb pn pc rb:Nat} {pa:Option Addr} (h:∀W',Below W1.heap.size W1 W'->W'.cell? ⟨xb,0,none⟩=some (.pointer (some ⟨lb,0,none⟩))/\W'.cell? ⟨lb,5,none⟩=some (.slice pa pn pc)/\W'.cell? ⟨lb,3,none⟩=some (.map (some mb))/\W'.cell? ⟨lb,4,none⟩=some (.slice (some ⟨g,0,none⟩) m cp))
  (hb:Below W1.heap.size W1 v) (ho:Only [rb] v W3) (hlt:xb<W1.heap.size/\lb<W1.heap.size/\xb≠rb/\lb≠rb/\rb<W1.heap.size/\rb<N0):
  W3.cell? ⟨xb,0,none⟩=some (.pointer (some ⟨lb,0,none⟩))/\W3.cell? ⟨lb,5,none⟩=some (.slice pa pn pc)/\W3.cell? ⟨lb,3,none⟩=some (.map (some mb))/\W3.cell? ⟨lb,4,none⟩=some (.slice (some ⟨g,0,none⟩) m cp):=by
 obtain⟨h1,h2,h3,h4⟩:=h v hb;have hx:xb<v.heap.size:=AL hlt.1 hb.size;have hl:lb<v.heap.size:=AL hlt.2.1 hb.size;have nx:xb∉ [rb]:=by simpa using hlt.2.2.1
 have nl:lb∉ [rb]:=by simpa using hlt.2.2.2.1
 exact⟨(ho.cell (p:=⟨xb,0,none⟩) hx nx).trans h1,(ho.cell (p:=⟨lb,5,none⟩) hl nl).trans h2,(ho.cell (p:=⟨lb,3,none⟩) hl nl).trans h3,(ho.cell (p:=⟨lb,4,none⟩) hl nl).trans h4⟩
theorem v0p (ib rb b off cap n:Nat) (bs:List Int) (hn:n=bs.length) (qz:cap<=9223372036854775807) (hs:0<q0w bs.length) (w:World) (h:q1m w (some ⟨b,off,none⟩) cap bs)
  (hi:w.cell? ⟨ib,0,none⟩=some (.slice (some ⟨b,off,none⟩) n cap)) (hr:Blk w rb 32 #[.slice none 0 0,.slice none 0 0,.slice none 0 0,.slice none 0 0,.int .i64 0,.int .i64 0]):
  CallsIn Fence.wide 6 Tryz.prog 65 #[.pointer (some ⟨ib,0,none⟩),.pointer (some ⟨rb,0,none⟩)] w (CatQ (v1c bs rb w) (x1g bs w)):=by
 have WH:=hid (v7v b off cap bs n hn qz hs w h);have HR:=hid hr;have qn:=hid h.2.1;have HS:=hid hs;clear hn hs h hr;refine callsIn_of_wp_marks Tryz.func65 rfl trivial ?_ rfl;simp only[Tryz.ntmps65,List.size_toArray,List.length_cons,List.length_nil,Nat.reduceAdd,Nat.reduceSub,Array.replicate_succ,Array.replicate_zero,List.push_toArray,List.append_toArray,List.nil_append,List.cons_append];gi_wp2_with fail;refine⟨trivial,(callsIn_wide.2 WH.out).mono ?_⟩;rintro e w1 ⟨ze,(⟨rs,ps,B,lv,pr,zp,rfl,⟨leaves,ky,hL⟩,hV,hP⟩|⟨xq,rfl⟩)⟩
 rotate_left
 ·exact Or.inr ⟨rfl,xq,ze⟩
 obtain⟨g,cp,rfl,qp,xy,zm⟩:=hV.ld (by intro e;rw[e] at ky;cases ky);obtain⟨pa,pc,rfl⟩:=q0q hP.own;obtain⟨m,hm⟩:∃m,m=rs.length:=⟨_,rfl⟩;rw[<- hm] at hL hV qp;obtain⟨pn,v0⟩:∃pn,pn=ps.length:=⟨_,rfl⟩;rw[<- v0] at hL hP;obtain⟨W1,zi⟩:∃W1,W1=w1.alloc (.cells #[.pointer (some ⟨B.lb,0,none⟩)] 136):=⟨_,rfl⟩;have O:Below w1.heap.size w1 W1:=by rw[zi];exact ba (Below.refl _ _) _
 obtain⟨xb,zn⟩:∃xb,xb=w1.heap.size:=⟨_,rfl⟩;have kx:Blk W1 xb 136 #[.pointer (some ⟨B.lb,0,none⟩)]:=by rw[zi,zn];exact Blk.new _ _ _
 have kj:=hL.bel O;have vj:q9k W1 w.heap.size B (.slice pa pn pc) ps:=⟨(Only.of_below O []).own hP.own (by simp),hP.apart⟩;have vv:=hV.only (Only.of_below O []) (by simp);have xd:=HR.out.bel (bx ze O);have HX:=hid (⟨zp,ky,hm,v0,qp,zn,ze.size⟩:_/\_/\_/\_/\_/\_/\_);have HW:=hid (⟨kj,vj,vv,kx,xd,bx ze O⟩:_/\_/\_/\_/\_/\_);have zl:Hid (∀W',Below W1.heap.size W1 W'->W'.cell? ⟨xb,0,none⟩=some (.pointer (some ⟨B.lb,0,none⟩))/\W'.cell? ⟨B.lb,5,none⟩=some (.slice pa pn pc)/\W'.cell? ⟨B.lb,3,none⟩=some (.map (some B.mb))/\W'.cell? ⟨B.lb,4,none⟩=some (.slice (some ⟨g,0,none⟩) m cp)):=fun W' hb=>⟨(kx.bel hb).cell 0,(kj.bel hb).cells.cell 5,(kj.bel hb).cells.cell 3,(kj.bel hb).cells.cell 4⟩;obtain⟨ks,ck,km,kr,kb,ko⟩:=kj.set.keys;have ha:=x5t qn.out HS.out zp ky;have vq:ks.length<=1000000:=by have h4:=ha.2.2.2;rw[<- kr,AO] at h4;omega
 have vh:Hid (∀W bm,Below W1.heap.size W1 W->W.cell? ⟨bm,0,none⟩=some (.map (some B.mb))->Calls Tryz.prog 67 #[.func (.func 156) #[] #[.pointer (some ⟨bm,0,none⟩)]] W fun e W'=> ∃v ys,e= .returned v/\x7m W ks v ys W'/\ys.Pairwise (· <= ·)):=fun W bm hb hc=>v2o bm B.mb ck ks W ((hb.block _ (AA.1 km).1).trans km) kb ko hc vq;have kg:=hid (⟨km,kr,kb,ko⟩:_/\_/\_/\_);have qs:∀(W:World) (a:Option Addr) (k c:Nat),bldR Tryz.prog 32 #[(0,.slice pa pn pc),(1,.slice a k c),(4,.int .i64 ((m:Int)-1))] W= .ok (.agg #[.slice pa pn pc,.slice a k c,.slice none 0 0,.slice none 0 0,.int .i64 ((m:Int)-1),.int .i64 0]) W:=fun W a k c=>by kernel_rfl
 have xx:m<=16:=by rw[hm];exact ha.2.1
 have yh:1<=m:=by rw[hm];exact ha.1
 have k9:=hid ha;have dk:IntKind.i64.wrap ((m:Int)-1)=(m:Int)-1:=by rw[IntWalk.i64_in _ (by omega)]
 clear ha zp ky hm v0 qp xy zm hL hV hP kj vj vv xd km kr kb ko vq ze O kx;gi_wp2_with fail;rw[<- zn,<- zi];clear zi zn;have kk:Hid (xb<W1.heap.size/\B.lb<W1.heap.size/\xb≠rb/\B.lb≠rb/\rb<W1.heap.size/\rb<w.heap.size):=by have h1:=HW.out.1.cells.lt;have h2:=HW.out.2.2.2.1.lt;have h3:=HR.out.lt;have h4:=HW.out.2.2.2.2.1.lt;have h5:=HW.out.1.ge;have h6:=HX.out.2.2.2.2.2.2;have h7:=HX.out.2.2.2.2.2.1;refine⟨h2,h1,by omega,by omega,h4,h3⟩
 obtain⟨z0,z5,z3,z4⟩:=zl.out W1 (Below.refl _ _);have xj:W1.drew.cell? ⟨xb,0,none⟩=some (.pointer (some ⟨B.lb,0,none⟩)):=z0;have xf:W1.drew.cell? ⟨B.lb,5,none⟩=some (.slice pa pn pc):=z5;have xc:W1.drew.cell? ⟨B.lb,3,none⟩=some (.map (some B.mb)):=z3;have vr:W1.drew.cell? ⟨B.lb,4,none⟩=some (.slice (some ⟨g,0,none⟩) m cp):=z4;refine wpIn_wide.2 ?_
 go_region_held3 (fun w'=>w'.cell? ⟨xb,0,none⟩=some (.pointer (some ⟨B.lb,0,none⟩))/\w'.cell? ⟨B.lb,5,none⟩=some (.slice pa pn pc)/\w'.cell? ⟨B.lb,3,none⟩=some (.map (some B.mb))/\w'.cell? ⟨B.lb,4,none⟩=some (.slice (some ⟨g,0,none⟩) m cp))
  (first|(with_reducible exact⟨q0,q5,q3,q4⟩)|(with_reducible exact⟨y0,y5,y3,y4⟩)|(with_reducible exact⟨x0,x5,x3,x4⟩)|(with_reducible exact⟨xj,xf,xc,vr⟩)|(with_reducible exact⟨z0,z5,z3,z4⟩))
  (first
   | (go_at_call 68;(with_reducible refine(callsIn_wide.1 (x5g 6 B.mb _)).mono ?_);rintro e v1 ⟨rfl,qd⟩;have zo:Below W1.heap.size W1 v1:=(by rw[qd];exact ba (by repeat(first|(exact Below.refl _ _)|(refine Below.drew ?_))) _);have vi:v1.cell? ⟨W1.heap.size,0,none⟩=some (.map (some B.mb)):=(by rw[qd];exact(Blk.new _ _ _).cell 0);obtain⟨x0,x5,x3,x4⟩:=zl.out v1 zo;have z7:=hid zo;have x9:=hid vi;clear qd zo vi)
   | (go_at_call 67;(with_reducible refine(vh.out v1 _ z7.out x9.out).mono ?_);rintro e v2 ⟨va,ys,rfl,hr,kn⟩;obtain⟨ra,rc,rfl⟩:=q0q hr.row;obtain⟨rn,hrn⟩:∃rn,rn=ys.length:=⟨_,rfl⟩;rw[<- hrn] at hr ⊢;have z9:Below W1.heap.size W1 v2:=bx z7.out hr.bel;obtain⟨y0,y5,y3,y4⟩:=zl.out v2 z9;obtain⟨W3,hst,k3,o3⟩:=x9x (HW.out.2.2.2.2.1.bel z9) rfl pa ra none none pn pc rn rc 0 0 0 0 ((m:Int)-1) 0;have K3:=hid (⟨k3,o3⟩:_/\_);obtain⟨q0,q5,q3,q4⟩:=v3m zl.out z9 o3 kk.out;clear k3 o3;have ki:=hid (⟨hr,kn,z9,hrn⟩:_/\_/\_/\_);clear hr kn z9 hrn))
 have x2:Hid (LokI W1 rb (.slice pa pn pc) (.slice ra rn rc) (.slice none 0 0) (.slice none 0 0) ((m:Int)-1) 0 ys [] [] W3):=by have L:=ki.out.1.row;have h1:=K3.out;have h2:=ki.out.2.2.1;have h3:=kk.out;refine⟨(Only.of_below h2 [rb]).trans h1.2 (fun _ h=>Or.inl h),h3.2.2.2.2.1,h1.1,?_,World.ownsRow_nil _ _ _ _,World.ownsRow_nil _ _ _ _,fun k hk=>by simp[Value.ownBlock] at hk,fun k hk=>by simp[Value.ownBlock] at hk⟩;refine h1.2.own (L.mono z7.out.size) (fun k hk y9=> ?_);have:=(L.lt k hk).1;have:=z7.out.size;simp at y9;omega
 have hf:=hid (⟨ki.out.1.perm,ki.out.2.1,ki.out.2.2.2⟩:_/\_/\_);have kz:0<ys.length:=by have h1:=hf.out.1.length_eq;have h2:=congrArg List.length kg.out.2.1;have h3:=x6w HX.out.1;simp at h1 h2;omega
 have xn:rn<=200000:=by have h1:=hf.out.1.length_eq;have h2:=congrArg List.length kg.out.2.1;have h3:=k9.out.2.2.2;have h4:=hf.out.2.2;rw[<- h2] at h3;simp at h1 h3;omega
 have vg:=hid (q2e x2.out.rrow kz);obtain⟨g2,yd,qg,_⟩:=vg.out;injection qg with hs1 hs2 hs3;subst hs1;clear hs2 hs3;clear vg kz;clear ki K3 z7 x9 vh qs hst y0 y5 y3 y4 x0 x5 x3 x4 z0 z5 z3 z4 xj xf xc vr;gi_wp2;gi_loopw [4,37] (fun yk iv wr=> ∃i:Nat,i<=m/\iv= .int .i64 i/\Hid (LokI W1 rb (.slice pa pn pc) (.slice (some ⟨g2,0,none⟩) rn rc) (.slice none 0 0) (.slice none 0 0) ((m:Int)-1) (q4q rs i) ys [] [] wr)) (fun _ iv _=>m- (intOf iv).toNat);case atStart=>exact⟨0,Af _,rfl,x2⟩
 case round=>
  obtain⟨i,hi,rfl,hI⟩:=hrel;have i0:(0:Int)<=(i:Int):=by omega
  by_cases hlt:i<m
  ·have i1:(i:Int)< (m:Int):=by omega
   obtain⟨row,L⟩:∃row,rs[i]?=some row:=⟨_,AD (by have:=HX.out.2.2.1;omega)⟩;have vz:W1.heap[rb]?=_:=HW.out.2.2.2.2.1;have hV:=HW.out.2.2.1.only hI.out.only (fun k hk=>Or.inr (by rw[AF.1 hk,vz];exact fun cs fr=>⟨(fun h=>by injection h with h;injection h with _ h;cases h),(fun h=>by injection h with h;injection h with _ h;cases h)⟩));obtain⟨g',yi,xv,_,_,zm⟩:=hV.ld (by intro e;rw[e] at L;simp at L);injection xv with hg1 hg2 hg3;clear hg2 hg3;injection hg1 with hg1;injection hg1 with hg1;subst hg1;obtain⟨yl,yf,kq,_⟩:=zm i row L;obtain⟨rl,qq⟩:∃rl,rl=row.length:=⟨_,rfl⟩;rw[<- qq] at kq;obtain⟨S,hS⟩:∃S,S=q4q rs i:=⟨_,rfl⟩;have U:=hI.out;rw[<- hS] at U;have c5:wr.cell? ⟨rb,5,none⟩=some (.int .i64 S):=U.rep.cell 5;have f5:=U.rep.frozen 5
   have dS:IntKind.i64.wrap (S+(rl:Int))=S+(rl:Int):=by
    have h1:=k9.out.2.2.1;have h2:=z4r h1 i (by have:=HX.out.2.2.1;omega);have h3:=h1 row (AJ L);rw[<- hS] at h2
    have h4:(i:Int)*((8320:Nat):Int)<=16*8320:=by
     have:(i:Int)<=16:=by omega
     omega
    rw[IntWalk.i64_in _ (by omega)]
   have HN:Hid (LokI W1 rb (.slice pa pn pc) (.slice (some ⟨g2,0,none⟩) rn rc) (.slice none 0 0) (.slice none 0 0) ((m:Int)-1) (q4q rs (i+1)) ys [] [] (wr.setCell ⟨rb,5,none⟩ (.int .i64 (S+(rl:Int))))):=by
    have h1:=U.node (S+(rl:Int));have e:S+(rl:Int)=q4q rs (i+1):=by rw[z0w L,hS,qq]
    rw[e];rw[e] at h1;exact h1
   have kt:=hid hlt;clear hlt L vz hV zm qq hS U;gi_wp2;go_roundw;case rel=>exact⟨i+1,kt.out,by go_num,HN⟩
   case measure=>simp[intOf];have:=kt.out;omega
  ·obtain rfl:i=m:=by omega
   have i1: ¬(i:Int)< (i:Int):=by omega
   have U:=hI.out;have x8:=HX.out.2.2.1;rw[show q4q rs i=q2y rs by rw[x8];exact z6f rs] at U;have c1:wr.cell? ⟨rb,1,none⟩=some (.slice (some ⟨g2,0,none⟩) rn rc):=U.rep.cell 1;have HA:=hid U;clear hlt U x8;gi_wp2;gi_loopw [6,51] (fun v6 iv wr=> ∃(j:Nat) (fv:Value),j<=rn/\iv= .int .i64 j/\Hid (LokI W1 rb (.slice pa pn pc) (.slice (some ⟨g2,0,none⟩) rn rc) fv (.slice none 0 0) ((i:Int)-1) (q2y rs) ys ((ys.take j).filter fun a=> !x3m bs a) [] wr)) (fun _ iv _=>rn- (intOf iv).toNat);case atStart=>exact⟨0,_,Af _,rfl,HA⟩
   case round=>
    obtain⟨j,fv,hj,rfl,hJ⟩:=hrel;obtain⟨wB,rfl⟩:∃x,x=wr:=⟨_,rfl⟩;have j0:(0:Int)<=(j:Int):=by omega
    by_cases hjr:j<rn
    ·have j1:(j:Int)< (rn:Int):=by omega
     have L:=hJ.out.rrow;have qf:=hf.out.2.2;obtain⟨x,hx⟩:∃x,ys[j]?=some x:=⟨_,AD (by omega)⟩;unfold rowU at L;obtain⟨g3,yc,qg,qm,_,qv,vx⟩:=q2e L (by omega);injection qg with hs1 hs2 hs3;clear hs2 hs3;injection hs1 with hs1;injection hs1 with hs1;subst hs1
     have c6:wB.cell? ⟨g2,j,none⟩=some (.int .u64 x):=by
      have:=vx j _ (by rw[AM,hx];rfl)
      rwa[AQ] at this
     have Y:x∈allA rs++(allE leaves).map (·.2):=by have h1:=hf.out.1.mem_iff.1 (AJ hx);rw[kg.out.2.1] at h1;exact h1
     have hp:=z7w qn.out HS.out HX.out.1 HX.out.2.1 x Y;have k4:=HW.out.1.ge;have h6:=kk.out;have he:=HW.out.1.only hJ.out.only (by simp;omega) (by simp;omega) (by simp;omega) (by simp;omega);have US:=hid (v5l B bs _ _ _ x (v6o hp) hp wB he.fix he.cells);have xo:wB.cell? ⟨xb,0,none⟩=some (.pointer (some ⟨B.lb,0,none⟩)):=(hJ.out.only.blk HW.out.2.2.2.1 (by simp;omega)).cell 0;have vf:((ys.take j).filter fun a=> !x3m bs a).length<=1000000:=by have h1:=Ao (fun a=> !x3m bs a) (ys.take j);have h2:=hf.out.1.length_eq;have h3:=k9.out.2.2.2;rw[AU] at h1;rw[<- kg.out.2.1,AO] at h3;simp at h2;omega
     have z1:ys.take (j+1)=ys.take j++[x]:=by rw[Ai,hx];rfl
     have kd:=hid (⟨z1,vf,hjr⟩:_/\_/\_);clear L qf hx qm qv vx Y hp k4 h6 he vf z1 hjr hj;obtain⟨ub,v3⟩:∃ub,ub=x3m bs x:=⟨_,rfl⟩;rw[<- v3] at US;have xe:=hid v3;clear v3;cases ub with
     | true=>
      gi_wp2_with fail;refine⟨trivial,(callsIn_wide.2 US.out).mono ?_⟩;rintro e w2 ⟨rfl,O⟩;have HN:Hid (LokI W1 rb (.slice pa pn pc) (.slice (some ⟨g2,0,none⟩) rn rc) fv (.slice none 0 0) ((i:Int)-1) (q2y rs) ys ((ys.take (j+1)).filter fun a=> !x3m bs a) [] w2):=by have h1:=hJ.out.bel O;rw[kd.out.1,Aq];refine hid ?_;simpa[<- xe.out] using h1
      clear O;gi_wp2;go_roundw;case rel=>exact⟨j+1,fv,kd.out.2.2,by go_num,HN⟩
      case measure=>simp[intOf];have:=kd.out.2.2;omega
     | false=>
      gi_wp2_with fail;refine⟨trivial,(callsIn_wide.2 US.out).mono ?_⟩;rintro e w2 ⟨rfl,O⟩;have h1:=hJ.out.bel O;obtain⟨va,vc,w9,v8,z2,f2,qc,_⟩:=h1.fault x kd.out.2.1;obtain⟨fn,xg⟩:∃fn,fn=((ys.take j).filter fun a=> !x3m bs a).length+1:=⟨_,rfl⟩;rw[<- xg] at v8 qc;have q2:w2.cell? ⟨rb,2,none⟩=some fv:=h1.rep.cell 2;have HN:Hid (LokI W1 rb (.slice pa pn pc) (.slice (some ⟨g2,0,none⟩) rn rc) (.slice va fn vc) (.slice none 0 0) ((i:Int)-1) (q2y rs) ys ((ys.take (j+1)).filter fun a=> !x3m bs a) [] (w9.setCell ⟨rb,2,none⟩ (.slice va fn vc))):=by rw[kd.out.1,Aq];refine hid ?_;simpa[<- xe.out] using qc
      clear O h1 qc xg;gi_wp2;go_roundw;case rel=>exact⟨j+1,_,kd.out.2.2,by go_num,HN⟩
      case measure=>simp[intOf];have:=kd.out.2.2;omega
    ·obtain rfl:j=rn:=by omega
     have j1: ¬(j:Int)< (j:Int):=by omega
     have zf:=hJ.out;have z1:ys.take j=ys:=by rw[hf.out.2.2,BH]
     rw[z1] at zf;have k4:=HW.out.1.ge;have h6:=kk.out;have he:=HW.out.1.only zf.only (by simp;omega) (by simp;omega) (by simp;omega) (by simp;omega);have d0:wB.cell? ⟨xb,0,none⟩=some (.pointer (some ⟨B.lb,0,none⟩)):=(zf.only.blk HW.out.2.2.2.1 (by simp;omega)).cell 0;have d1:wB.cell? ⟨B.lb,1,none⟩=some (.slice (some ⟨B.hb,0,none⟩) (nsI bs+1) B.hc):=he.cells.cell 1;obtain⟨hn,zk⟩:∃hn,hn=nsI bs+1:=⟨_,rfl⟩;rw[<- zk] at d1;have xm:hn<=65:=by have:=(q1s HS.out).2.2.2;rw[zk];unfold nsI;have:=(q1s HS.out).2.1;omega
     have x1:=hid zk;have HC:=hid zf;clear zf z1 k4 h6 he zk hjr hj;gi_wp2;have y1:Hid (Lok3 W1 rb (.slice pa pn pc) (.slice (some ⟨g2,0,none⟩) j rc) fv (.slice none 0 0) ((i:Int)-1) (q2y rs) ys (ys.filter fun a=> !x3m bs a) bs 0 [] wB):=⟨HC.out,(fun d hd=>by cases hd),List.nodup_nil⟩;clear d0 d1;refine wpIn_loop (fun(a:Act) (W:World)=> ∃(k:Nat) (kv:Value) (Ds:List Nat),k<=hn/\Ds.length=k/\Hid (Lok3 W1 rb (.slice pa pn pc) (.slice (some ⟨g2,0,none⟩) j rc) fv kv ((i:Int)-1) (q2y rs) ys (ys.filter fun a=> !x3m bs a) bs k Ds W)/\ ∃u7 u8 u9 zt ql vd vn vp vk ve vo x6 xi x7 zs qb qt qa v4 qk zr zy qi qo zv zz qj v9 qh qx v7 v5 zq qy ke hz kc:Value,a={ tmps:= #[Value.pointer (some { block:=ib,off:=0 }),Value.pointer (some { block:=rb,off:=0 }),Value.pointer (some { block:=xb,off:=0 }),undef,u4,undef,u6,u7,u8,u9,zt,ql,vd,Value.slice (some { block:=b,off:=off }) n cap,Value.pointer (some { block:=B.lb,off:=0 }),Value.pointer (some { block:=B.lb,off:=0 }),Value.pointer (some { block:=B.lb,off:=0 }),Value.pointer (some { block:=B.lb,off:=5 }),Value.slice pa pn pc,Value.pointer (some { block:=B.lb,off:=0 }),Value.pointer (some { block:=B.lb,off:=0 }),Value.pointer (some { block:=B.lb,off:=3 }),Value.map (some B.mb),Value.func (Fn.func 156) #[] #[Value.pointer (some { block:=W1.heap.size,off:=0 })],Value.slice (some { block:=g2,off:=0 }) j rc,Value.pointer (some { block:=B.lb,off:=0 }),Value.pointer (some { block:=B.lb,off:=0 }),Value.pointer (some { block:=B.lb,off:=4 }),Value.slice (some { block:=g,off:=0 }) i cp,Value.int IntKind.i64 ↑i,Value.int IntKind.i64 (↑i-1),Value.agg #[Value.slice pa pn pc,Value.slice (some { block:=g2,off:=0 }) j rc,Value.slice none 0 0,Value.slice none 0 0,Value.int IntKind.i64 (↑i-1),Value.int IntKind.i64 0],Value.pointer (some { block:=B.lb,off:=0 }),Value.pointer (some { block:=B.lb,off:=0 }),Value.pointer (some { block:=B.lb,off:=4 }),Value.slice (some { block:=g,off:=0 }) i cp,Value.int IntKind.i64 ↑i,Value.int IntKind.i64 ↑i,Value.bool false,u39,u40,u41,u42,u43,u44,u45,u46,u47,Value.pointer (some { block:=rb,off:=1 }),Value.slice (some { block:=g2,off:=0 }) j rc,Value.int IntKind.i64 ↑j,Value.int IntKind.i64 ↑j,Value.bool false,u53,u54,u55,u56,u57,u58,u59,u60,u61,u62,u63,u64,u65,Value.pointer (some { block:=B.lb,off:=0 }),Value.pointer (some { block:=B.lb,off:=0 }),Value.pointer (some { block:=B.lb,off:=1 }),Value.slice (some { block:=B.hb,off:=0 }) hn B.hc,Value.int IntKind.i64 ↑hn,Value.int IntKind.i64 (k:Int),vn,vp,vk,ve,vo,x6,xi,x7,zs,qb,qt,qa,v4,qk,zr,zy,qi,qo,zv,zz,qj,v9,qh,qx,v7,v5,zq,qy,ke,hz,kc],defers:=Ds.map v3h }) (fun a _=>hn-a.defers.length) ?_ ?_
     ·refine⟨0,_,[],Af _,rfl,y1,?_⟩
      (repeat apply Exists.intro)
      rfl
     rintro a W ⟨k,kv,Ds,hk,hds,hI,I⟩;obtain⟨u7,I⟩:=I;obtain⟨u8,I⟩:=I;obtain⟨u9,I⟩:=I;obtain⟨zt,I⟩:=I;obtain⟨ql,I⟩:=I;obtain⟨vd,I⟩:=I;obtain⟨vn,I⟩:=I;obtain⟨vp,I⟩:=I;obtain⟨vk,I⟩:=I;obtain⟨ve,I⟩:=I;obtain⟨vo,I⟩:=I;obtain⟨x6,I⟩:=I;obtain⟨xi,I⟩:=I;obtain⟨x7,I⟩:=I;obtain⟨zs,I⟩:=I;obtain⟨qb,I⟩:=I;obtain⟨qt,I⟩:=I;obtain⟨qa,I⟩:=I;obtain⟨v4,I⟩:=I;obtain⟨qk,I⟩:=I;obtain⟨zr,I⟩:=I;obtain⟨zy,I⟩:=I;obtain⟨qi,I⟩:=I;obtain⟨qo,I⟩:=I;obtain⟨zv,I⟩:=I;obtain⟨zz,I⟩:=I;obtain⟨qj,I⟩:=I;obtain⟨v9,I⟩:=I;obtain⟨qh,I⟩:=I;obtain⟨qx,I⟩:=I;obtain⟨v7,I⟩:=I;obtain⟨v5,I⟩:=I;obtain⟨zq,I⟩:=I;obtain⟨qy,I⟩:=I;obtain⟨ke,I⟩:=I;obtain⟨hz,I⟩:=I;obtain⟨kc,I⟩:=I;subst I;have k0:(0:Int)<=(k:Int):=by omega
     by_cases hlt:k<hn
     ·have k1:(k:Int)< (hn:Int):=by omega
      have k4:=HW.out.1.ge;have h6:=kk.out;have he:=HW.out.1.only hI.out.lok.only (by simp;omega) (by simp;omega) (by simp;omega) (by simp;omega);obtain⟨c,hc⟩:∃c,c=z1z bs k:=⟨_,rfl⟩;obtain⟨t,ht⟩:∃t,t=z0g bs k:=⟨_,rfl⟩;obtain⟨e1,e2⟩:=he.fix.heads k (by have:=x1.out;omega);rw[<- hc] at e1;rw[<- ht] at e2;have zg:=he.fix.hlt;have z8:=hid (⟨hc,ht,hlt⟩:_/\_/\_);have HK:=hid (⟨hk,hds⟩:_/\_);clear k4 h6 he hc ht hlt hk hds;gi_wp2_with fail;obtain⟨W2,kh⟩:∃W2,W2=(W.alloc (Obj.cells #[Value.int IntKind.i64 ↑k] 3)).alloc (Obj.cells #[Value.int IntKind.i64 ↑c,Value.int IntKind.u64 ↑t] 151):=⟨_,rfl⟩;rw[<- kh];have O:Below W.heap.size W W2:=by rw[kh];exact ba (ba (Below.refl _ _) _) _
      have zd:Hid (W2.heap.size=W.heap.size+2):=hid (by rw[kh];simp);have k7:Blk W2 W.heap.size 3 #[.int .i64 (k:Int)]:=by rw[kh];exact(Blk.new W _ _).alloc _
      have k8:Blk W2 (W.heap.size+1) 151 #[.int .i64 (c:Int),.int .u64 (t:Int)]:=by rw[kh];have:=Blk.new (W.alloc (Obj.cells #[Value.int IntKind.i64 ↑k] 3)) 151 #[.int .i64 (c:Int),.int .u64 (t:Int)];simpa only[World.size_alloc] using this
      clear kh;refine⟨trivial,(z7h _ _ _).mono ?_⟩;rintro e W6 ⟨rfl,rfl⟩;gi_wp2_with fail;obtain⟨W5,zc⟩:∃W5,W5=W2.alloc (Obj.cells #[Value.int IntKind.u64 ↑t] 46):=⟨_,rfl⟩;rw[<- zc];have vl:W5.heap.size=W.heap.size+3:=by rw[zc];simp[zd.out]
      have kp:Below W2.heap.size W2 W5:=by rw[zc];exact ba (Below.refl _ _) _
      have y6:W5.cell? ⟨W2.heap.size,0,none⟩=some (.int .u64 (t:Int)):=by rw[zc];exact(Blk.new W2 46 #[.int .u64 (t:Int)]).cell 0
      clear zc;have zd:=zd.out;have U:=hI.out;have xa:=U.lok.only.size
      have ya:Lok4 W1 rb (.slice pa pn pc) (.slice (some ⟨g2,0,none⟩) j rc) fv kv ((i:Int)-1) (q2y rs) ys (ys.filter fun a=> !x3m bs a) ((List.range k).flatMap (q3i bs ys)) W.heap.size (W.heap.size+1) k c t Ds W5.heap.size [] W5:=by
       refine⟨⟨by omega,by omega,by omega,by omega,by omega⟩,AG _,⟨kv,?_,Or.inl rfl⟩,k7.bel kp,k8.bel kp,fun d hd=> ?_⟩;·have:=(U.lok.bel O).bel kp;simpa[q3t] using this
       ·have h1:=(U.ds d hd).1;have h2:=(AA.1 h1).1;exact⟨(kp.block d (AL h2 O.size)).trans ((O.block d h2).trans h1),by omega⟩
      have vy:t<18446744073709551616:=by
       rw[z8.out.2.1];unfold z0g;split;·omega
       ·exact x0r qn.out k
      have z6:=hid (⟨zd,vl,xa,vy⟩:_/\_/\_/\_);clear U xa zd vl O kp k7 k8 e1 e2;have F3:Hid (rb<W5.heap.size/\(∀q,kv.ownBlock=some q->q<W.heap.size)/\rb<W.heap.size):=by have h1:=hI.out.lok.rlt;have h2:=z6.out.2.2.1;have h3:=z6.out.2.1;exact hid ⟨by omega,fun q hq=>(hI.out.lok.ge.2.2 q hq).2,by omega⟩
      refine wpIn_rangeFunc_ownG rfl (by omega) (gf:=158) (lb:= #[.pointer (some ⟨W2.heap.size,0,none⟩)]) rfl trivial (enters_of Tryz.func158 (by kernel_rfl) rfl)
       (z3r 5 t vy (rb::kv.ownBlock.toList) W5.heap.size W2.heap.size W5 (by have h1:=z6.out.1;have h2:=z6.out.2.1;omega) (fun hm=>by
        have h3:=F3.out;have h4:=z6.out.1;have h5:=h3.2.2;rcases AN.1 hm with e|e;·omega
        ·have:=h3.2.1 _ (by simpa[Option.mem_toList] using e);omega) (AG _) y6) q0u.trans ?hKb (Below.refl _ _) (fun _=>rfl)
       (Lok4 W1 rb (.slice pa pn pc) (.slice (some ⟨g2,0,none⟩) j rc) fv kv ((i:Int)-1) (q2y rs) ys (ys.filter fun a=> !x3m bs a) ((List.range k).flatMap (q3i bs ys)) W.heap.size (W.heap.size+1) k c t Ds W5.heap.size) (fun _ _ _=>False) ?hI ?hX ya
       (fun x=>{ tmps:= #[Value.pointer (some { block:=ib,off:=0 }),Value.pointer (some { block:=rb,off:=0 }),Value.pointer (some { block:=xb,off:=0 }),undef,u4,undef,u6,Value.pointer (some { block:=W.heap.size,off:=0 }),Value.pointer (some { block:=W.heap.size+1,off:=0 }),Value.int IntKind.i64 (x.val:Int),zt,ql,vd,Value.slice (some { block:=b,off:=off }) n cap,Value.pointer (some { block:=B.lb,off:=0 }),Value.pointer (some { block:=B.lb,off:=0 }),Value.pointer (some { block:=B.lb,off:=0 }),Value.pointer (some { block:=B.lb,off:=5 }),Value.slice pa pn pc,Value.pointer (some { block:=B.lb,off:=0 }),Value.pointer (some { block:=B.lb,off:=0 }),Value.pointer (some { block:=B.lb,off:=3 }),Value.map (some B.mb),Value.func (Fn.func 156) #[] #[Value.pointer (some { block:=W1.heap.size,off:=0 })],Value.slice (some { block:=g2,off:=0 }) j rc,Value.pointer (some { block:=B.lb,off:=0 }),Value.pointer (some { block:=B.lb,off:=0 }),Value.pointer (some { block:=B.lb,off:=4 }),Value.slice (some { block:=g,off:=0 }) i cp,Value.int IntKind.i64 ↑i,Value.int IntKind.i64 (↑i-1),Value.agg #[Value.slice pa pn pc,Value.slice (some { block:=g2,off:=0 }) j rc,Value.slice none 0 0,Value.slice none 0 0,Value.int IntKind.i64 (↑i-1),Value.int IntKind.i64 0],Value.pointer (some { block:=B.lb,off:=0 }),Value.pointer (some { block:=B.lb,off:=0 }),Value.pointer (some { block:=B.lb,off:=4 }),Value.slice (some { block:=g,off:=0 }) i cp,Value.int IntKind.i64 ↑i,Value.int IntKind.i64 ↑i,Value.bool false,u39,u40,u41,u42,u43,u44,u45,u46,u47,Value.pointer (some { block:=rb,off:=1 }),Value.slice (some { block:=g2,off:=0 }) j rc,Value.int IntKind.i64 ↑j,Value.int IntKind.i64 ↑j,Value.bool false,u53,u54,u55,u56,u57,u58,u59,u60,u61,u62,u63,u64,u65,Value.pointer (some { block:=B.lb,off:=0 }),Value.pointer (some { block:=B.lb,off:=0 }),Value.pointer (some { block:=B.lb,off:=1 }),Value.slice (some { block:=B.hb,off:=0 }) hn B.hc,Value.int IntKind.i64 ↑hn,Value.int IntKind.i64 (k:Int),Value.bool true,Value.int IntKind.i64 ↑k,Value.pointer (some { block:=B.hb,off:=k*2 }),Value.agg #[Value.int IntKind.i64 ↑c,Value.int IntKind.u64 ↑t],Value.pointer (some { block:=W.heap.size+1,off:=1 }),Value.int IntKind.u64 ↑t,Value.func (Fn.func 158) #[] #[Value.pointer (some { block:=W2.heap.size,off:=0 })],Value.int IntKind.i64 (x.val:Int),zs,qb,qt,qa,v4,qk,zr,zy,qi,qo,zv,zz,qj,v9,qh,qx,v7,v5,zq,qy,ke,hz,kc],defers:=[] }) ?assign ?body ?done ?stop
      case hKb=>intro W' l o o' hl ho hc hw;exact q0u.putObj (q0u.refl _ _ _) hl _
      case hI=>intro s A W' row h hg hr;exact h.grown hg (fun r e=>hr r e)
      case hX=>intro c s A W' row h hg hr;exact h
      case assign=>intro l x W' K hK;gi_wp2;exact hK
      case stop=>exact fun _ _ _ _ _ _ h=>h.elim
      case body=>
       rintro l pre x W7 zj zb;have y7:W7.cell? ⟨W.heap.size,0,none⟩=some (.int .i64 (k:Int)):=zj.b7.cell 0;have y8:W7.cell? ⟨W.heap.size+1,0,none⟩=some (.int .i64 (c:Int)):=zj.b8.cell 0;have zx:=hid zj;have y2:=hid zb;clear zj zb;gi_wp2_with fail;refine⟨trivial,(CallsIn.inRound l (callsIn_wide.2 (x7g (k:Int) (c:Int) (x.val:Int) W7))).mono ?_⟩;rintro e W8 ⟨rfl,zg⟩;have H8:=zx.out.bel zg;obtain⟨qe,M,_⟩:=H8.lok;have k4:=HW.out.1.ge;have h6:=kk.out;have hy:=HW.out.1.only M.only (by simp;omega) (by simp;omega) (by simp;omega) (by simp;omega);have d0:W8.cell? ⟨xb,0,none⟩=some (.pointer (some ⟨B.lb,0,none⟩)):=(M.only.blk HW.out.2.2.2.1 (by simp;omega)).cell 0;have d3:W8.cell? ⟨B.lb,3,none⟩=some (.map (some B.mb)):=hy.cells.cell 3;have vm:=hy.set.look (q0c (k:Int) (c:Int) (x.val:Int));have Y:q0c (k:Int) (c:Int) (x.val:Int)∈allA rs++(allE leaves).map (·.2)↔q0c (k:Int) (c:Int) (x.val:Int)∈ys:=by have h1:=hf.out.1.mem_iff (a:=q0c (k:Int) (c:Int) (x.val:Int));rw[kg.out.2.1] at h1;exact h1.symm
       have h8:(((List.range k).flatMap (q3i bs ys))++q3t ys k c pre).length<=1000000:=by have h1:=x7k bs ys k;have h2:=z0u ys k c pre;have h3:=y2.out;rw[AI];omega
       have kf:=hid (⟨zg,H8⟩:_/\_);clear k4 h6 hy M H8 zg y7 y8;by_cases hin:q0c (k:Int) (c:Int) (x.val:Int)∈ys
       ·rw[AT (Y.2 hin)] at vm;have HY:=hid (kf.out.2.yes hin);clear Y h8 hin;have k5:Hid (KeepsFrom W5.heap.size W7 (W8.alloc (.cells #[] 147))/\q0u (rb::kv.ownBlock.toList) W5.heap.size W7 (W8.alloc (.cells #[] 147))/\Lok4 W1 rb (.slice pa pn pc) (.slice (some ⟨g2,0,none⟩) j rc) fv kv ((i:Int)-1) (q2y rs) ys (ys.filter fun a=> !x3m bs a) ((List.range k).flatMap (q3i bs ys)) W.heap.size (W.heap.size+1) k c t Ds W5.heap.size (pre++[x]) (W8.alloc (.cells #[] 147))):=by have h9:=ba kf.out.1 (.cells #[] 147);exact hid ⟨x6g h9,x1w h9 zx.out.sz,HY.out.bel (ba (Below.refl _ _) _)⟩
        gi_wp2_with fail;exact k5.out
       ·rw[AK (fun h=>hin (Y.1 h))] at vm;have yj:=hid hin;have xl:=hid h8;have h9:Below W8.heap.size W8 (W8.alloc (.cells #[] 147)):=ba (Below.refl _ _) _;obtain⟨xk,va,ln,vc,w9,q1,q2,q3,q4,q5,q6,q7⟩:=(kf.out.2.bel h9).leak hin h8;obtain⟨kv0,q8,_⟩:=kf.out.2.lok;have q9:=q8.rep.cell 3;have xt:(W8.alloc (.cells #[] 147)).cell? ⟨rb,3,none⟩=some kv0:=(q8.bel h9).rep.cell 3;rw[xt] at q1;have xp:kv0=xk:=by simpa using q1
        subst xp;have ye:W8.cell? ⟨rb,3,none⟩=some kv0:=q9;simp only[World.size_alloc] at q2;have k5:Hid (KeepsFrom W5.heap.size W7 (w9.setCell ⟨rb,3,none⟩ (.slice va ln vc))/\q0u (rb::kv.ownBlock.toList) W5.heap.size W7 (w9.setCell ⟨rb,3,none⟩ (.slice va ln vc))/\Lok4 W1 rb (.slice pa pn pc) (.slice (some ⟨g2,0,none⟩) j rc) fv kv ((i:Int)-1) (q2y rs) ys (ys.filter fun a=> !x3m bs a) ((List.range k).flatMap (q3i bs ys)) W.heap.size (W.heap.size+1) k c t Ds W5.heap.size (pre++[x]) (w9.setCell ⟨rb,3,none⟩ (.slice va ln vc))):=hid ⟨v8a (x6g (bx kf.out.1 h9)) q6,(x1w (bx kf.out.1 h9) zx.out.sz).trans q7,q5⟩;clear Y hin h8 h9 q1 q5 q6 q7 q8 q9;gi_wp2_with fail;exact k5.out
      case done=>
       rintro D xs W8 hD rfl za zh;obtain⟨qe,M,_⟩:=za.lok
       have hh:∀W9,Below W8.heap.size W8 W9->Lok3 W1 rb (.slice pa pn pc) (.slice (some ⟨g2,0,none⟩) j rc) fv qe ((i:Int)-1) (q2y rs) ys (ys.filter fun a=> !x3m bs a) bs (k+1) (D::Ds) W9:=by
        intro W9 h9;have xr:D<W8.heap.size:=(AA.1 zh).1;refine⟨?_,fun d hd=> ?_,Br.2 ⟨fun hm=> ?_,hI.out.nd⟩⟩;·rw[Ay,Al];have h1:=M.bel h9;rw[z8.out.1,z8.out.2.1] at h1;simpa[q3i] using h1
        ·rcases AN.1 hd with rfl|hd;·exact⟨(h9.block _ xr).trans zh,by have:=za.z.1;omega⟩
         ·have h1:=(za.ds d hd).1;exact⟨(h9.block _ (AA.1 h1).1).trans h1,(hI.out.ds d hd).2⟩
        ·have:=(za.ds D hm).2;omega
       have yb:=hid (hh W8 (Below.refl _ _));have yg:=hid zh;clear za M hh zh;gi_wp2;refine⟨⟨k+1,qe,D::Ds,z8.out.2.2,by simp[HK.out.2],yb,?_⟩,?_⟩
       ·rw[show((k+1:Nat):Int)=(k:Int)+1 by omega]
        (repeat apply Exists.intro)
        rfl
       ·have h1:=HK.out.2;have h2:=z8.out.2.2;simp only[List.length_cons,List.length_map];omega
     ·have xh:k=hn:=by omega
      have k1: ¬(k:Int)< (hn:Int):=by omega
      have xz:=hid xh;clear xh hk hlt;gi_wp2;refine z0o Ds W (fun d hd=>(hI.out.ds d hd).1) hI.out.nd (fun W' ho=> ?_);refine⟨.tuple #[],by simp[results,Tryz.results65,go_sem],Or.inl ⟨rfl,?_⟩⟩;have h1:=hI.out.lok.turn ho (fun d hd=>⟨(hI.out.ds d hd).2,Or.inr (fun cs t fr e=>by rw[(hI.out.ds d hd).1] at e;cases e)⟩);rw[xz.out,x1.out,HX.out.2.2.1] at h1;exact⟨rs,ps,leaves,ys,W1,B,_,_,fv,kv,HX.out.1,HX.out.2.1,by rw[<- kg.out.2.1];exact hf.out.1,hf.out.2.1,HW.out.2.2.2.2.2,HW.out.2.1,h1⟩
end
section
theorem q6v (p v:Value):Instr.storeAt 32 p v=stM 32 p v:=rfl
theorem q7f (p:Value):Instr.loadAt 32 p=ldM 32 p:=rfl
theorem q7e (a:Addr):loadVar 32 a=lvM 32 a:=rfl
attribute [local go_sem ↓ high] q6v q7f q7e
attribute [local go_sem] q1x q1p q1v
theorem v1q (ib rb:Nat) (p:Option Addr) (n cap:Nat) (bs:List Int) (hn:n=bs.length) (h6:n<=1000000) (hs: ¬0<q0w bs.length) (w:World)
  (hi:w.cell? ⟨ib,0,none⟩=some (.slice p n cap)):
  CallsIn Fence.wide 6 Tryz.prog 65 #[.pointer (some ⟨ib,0,none⟩),.pointer (some ⟨rb,0,none⟩)] w (CatQ (v1c bs rb w) (x1g bs w)):=by
 have WH:=hid (x6r p n cap bs hn h6 hs w);have HS:=hid hs;clear hn hs;refine callsIn_of_wp_marks Tryz.func65 rfl trivial ?_ rfl;simp only[Tryz.ntmps65,List.size_toArray,List.length_cons,List.length_nil,Nat.reduceAdd,Nat.reduceSub,Array.replicate_succ,Array.replicate_zero,List.push_toArray,List.append_toArray,List.nil_append,List.cons_append];gi_wp2_with fail;refine⟨trivial,(callsIn_wide.2 WH.out).mono ?_⟩;rintro e w1 ⟨L,(⟨rs,ps,B,lv,pr,M,rfl,_⟩|⟨I,rfl⟩)⟩;·exfalso;have h1:=M.slabs.1;have h2:=HS.out;omega
 ·exact Or.inr ⟨rfl,I,L⟩
def q3u (bs:List Int) (w:World) (e:Ending) (w':World):Prop:=
 Below w.heap.size w w'/\((∃rs ps leaves R B pv rv fv kv,q1a bs rs ps/\rs.getLast?=some leaves/\R.Perm (allA rs++(allE leaves).map (·.2))/\R.Pairwise (· <= ·)/\
   e= .returned (.tuple #[.agg #[pv,rv,fv,kv,.int .i64 (rs.length-1:Int),.int .i64 (q2y rs)],.int .i64 0])/\
   q9k w' w.heap.size B pv ps/\rowU w' w.heap.size rv R/\rowU w' w.heap.size fv (R.filter fun a=> !x3m bs a)/\rowU w' w.heap.size kv (z8p bs R))\/
  ((∀rs ps,¬q1a bs rs ps)/\e= .returned (.tuple #[.agg #[.slice none 0 0,.slice none 0 0,.slice none 0 0,.slice none 0 0,.int .i64 0,.int .i64 0],.int .i64 6])))
theorem v8x (p:Option Addr) (n cap:Nat) (bs:List Int) (hn:n=bs.length) (h6:n<=1000000) (h8:cap<=9223372036854775807) (w:World) (h:q1m w p cap bs):
  Calls Tryz.prog 15 #[.slice p n cap] w (q3u bs w):=by
 have ht:∀(fn:Fn) (first cap:Array Value) (w:World),(Instr.makeFunc fn first cap).run Tryz.prog w= .ok (.func fn first cap) w:=fun _ _ _ _=>rfl;obtain⟨W2,M⟩:∃W2,W2=(w.alloc (.cells #[.slice p n cap] 36)).alloc (.cells #[.slice none 0 0,.slice none 0 0,.slice none 0 0,.slice none 0 0,.int .i64 0,.int .i64 0] 32):=⟨_,rfl⟩;have U:Below w.heap.size w W2:=by rw[M];exact ba (ba (Below.refl _ _) _) _
 have he:W2.heap.size=w.heap.size+2:=by rw[M];simp
 have k1:Blk W2 w.heap.size 36 #[.slice p n cap]:=by rw[M];exact(Blk.new w _ _).alloc _
 have k2:Blk W2 (w.heap.size+1) 32 #[.slice none 0 0,.slice none 0 0,.slice none 0 0,.slice none 0 0,.int .i64 0,.int .i64 0]:=by rw[M];have:=Blk.new (w.alloc (.cells #[.slice p n cap] 36)) 32 #[.slice none 0 0,.slice none 0 0,.slice none 0 0,.slice none 0 0,.int .i64 0,.int .i64 0];simpa only[World.size_alloc] using this
 obtain⟨W3,S⟩:∃W3,W3=W2.alloc (.cells #[.int .i64 0] 33):=⟨_,rfl⟩;have O:Below W2.heap.size W2 W3:=by rw[S];exact ba (Below.refl _ _) _
 have h9:W3.heap.size=W2.heap.size+1:=by rw[S];simp
 have k3:Blk W3 W2.heap.size 33 #[.int .i64 0]:=by rw[S];exact Blk.new _ _ _
 have ha:Calls Tryz.prog 65 #[.pointer (some ⟨w.heap.size,0,none⟩),.pointer (some ⟨w.heap.size+1,0,none⟩)] W3 (CatQ (v1c bs (w.heap.size+1) W3) (x1g bs W3)):=by
  by_cases hs:0<q0w bs.length;·have hl:=q1s hs;obtain⟨b,off,rfl,hbl,hq⟩:=h.2.2 (by omega);refine callsIn_wide.1 (v0p w.heap.size (w.heap.size+1) b off cap n bs hn h8 hs W3 ?_ ((k1.bel O).cell 0) (k2.bel O));have hf:=bx U O;exact⟨h.1,h.2.1,fun _=>⟨b,off,rfl,AL hbl hf.size,fun i x hx=>(hf.cell (p:=⟨b,off+i,none⟩) hbl).trans (hq i x hx)⟩⟩
  ·exact callsIn_wide.1 (v1q w.heap.size (w.heap.size+1) p n cap bs hn h6 hs W3 ((k1.bel O).cell 0))
 have hj:=hid (v2p 65 #[.pointer (some ⟨w.heap.size,0,none⟩),.pointer (some ⟨w.heap.size+1,0,none⟩)] (fun W=>by kernel_rfl) W2 (v1c bs (w.heap.size+1) W3) (x1g bs W3) (by rw[<- S];exact ha) (fun w' hw=>by
  rcases hw with⟨rs,ps,leaves,R,W1,B,pv,rv,fv,kv,_,_,_,_,hb,_,hI⟩|⟨_,hb⟩;·have:=hI.only.blk (k3.bel hb) (by simp;omega);exact⟨this.cell 0,this.frozen 0⟩
  ·exact⟨(k3.bel hb).cell 0,(k3.bel hb).frozen 0⟩))
 have HW:=hid (⟨U,he,k2,O,h9,k3⟩:_/\_/\_/\_/\_/\_);clear hn h6 h U he k1 k2 O h9 k3 ha;go_enter Tryz.func15,Tryz.ntmps15;go_wp2_with fail;rw[<- M];clear M S;refine hj.out.mono ?_;rintro e w5 ⟨w4,(⟨hi,rfl,rfl⟩|⟨h3,rfl,rfl⟩)⟩
 ·obtain⟨rs,ps,leaves,R,W1,B,pv,rv,fv,kv,c1,c2,c3,c4,hb,hP,hI⟩:=hi;obtain⟨pa,pc,rfl⟩:=q0q hP.own;have h7:=hI.rrow;have Y:=hI.frow;have h4:=hI.krow;unfold rowU at h7 Y h4;obtain⟨ra,rc,rfl⟩:=q0q h7;obtain⟨fa,fc,rfl⟩:=q0q Y;obtain⟨ka,kc,rfl⟩:=q0q h4;obtain⟨W5,I⟩:∃W5,W5=w4.setCell ⟨W2.heap.size,0,none⟩ (.int .i64 0):=⟨_,rfl⟩;have o5:Only [W2.heap.size] w4 W5:=by rw[I];exact(Only.refl _ _).setCell (Or.inl (by simp)) _
  have hh:=HW.out;have z1:=hb.size;have z2:=hI.only.size;have k5:=o5.blk hI.rep (by simp;omega);have ho:=k5.ld (P:=Tryz.prog) (ty:=32) Tryz.underlying32 rfl (by kernel_rfl);have h5:=k5.lv (P:=Tryz.prog) (ty:=32) Tryz.underlying32 rfl (by kernel_rfl);have hp:=k5.st_same (P:=Tryz.prog) (ty:=32) (by kernel_rfl) (by kernel_rfl);have bel:Below w.heap.size w W5:=by have h1:Below w.heap.size w W1:=bx (bx hh.1 hh.2.2.2.1) hb;have h2:=h1.trans (hI.only.below (B:=w.heap.size) (fun x hx=>by simp at hx;omega) h1.size);exact h2.trans (o5.below (B:=w.heap.size) (fun x hx=>by simp at hx;omega) h2.size)
  have rows:∀(v:Value) (xs:List Int),rowU w4 W1.heap.size v xs->rowU W5 w.heap.size v xs:=fun v xs hr=>(o5.own hr (fun k hk hm=>by have:=(hr.lt k hk).1;simp at hm;omega)).mono (by omega);have L:Hid (q3u bs w (.returned (.tuple #[.agg #[.slice pa ps.length pc,.slice ra R.length rc,.slice fa (R.filter fun a=> !x3m bs a).length fc,.slice ka (z8p bs R).length kc,.int .i64 (rs.length-1:Int),.int .i64 (q2y rs)],.int .i64 0])) W5):=by refine hid ⟨bel,Or.inl ⟨rs,ps,leaves,R,B,_,_,_,_,c1,c2,c3,c4,rfl,⟨?_,hP.apart⟩,rows _ _ hI.rrow,rows _ _ hI.frow,rows _ _ hI.krow⟩⟩;have q1:=hI.only.own hP.own (fun k hk hm=>by have:=(hP.own.lt k hk).1;simp at hm;omega);have q2:=o5.own q1 (fun k hk hm=>by have:=(hP.own.lt k hk).1;simp at hm;omega);exact q2.mono (by omega)
  rw[<- I];clear I o5 hh k5 bel rows h7 Y h4 hP hI c1 c2 c3 c4 hb z1 z2;go_wp2
  trace_state
  refine bodyPost_ret (v:= .tuple #[_,.int .i64 0]) (q0y rfl _ _ _ _ _ rfl rfl h5) rfl ?_;exact L.out
 ·obtain⟨hg,hb⟩:=h3;obtain⟨W5,I⟩:∃W5,W5=w4.setCell ⟨W2.heap.size,0,none⟩ (.int .i64 6):=⟨_,rfl⟩;have o5:Only [W2.heap.size] w4 W5:=by rw[I];exact(Only.refl _ _).setCell (Or.inl (by simp)) _
  have hh:=HW.out;have z1:=hb.size;have k5:=o5.blk ((hh.2.2.1.bel hh.2.2.2.1).bel hb) (by simp;omega);have ho:=k5.ld (P:=Tryz.prog) (ty:=32) Tryz.underlying32 rfl (by kernel_rfl);have h5:=k5.lv (P:=Tryz.prog) (ty:=32) Tryz.underlying32 rfl (by kernel_rfl);have hp:=k5.st_same (P:=Tryz.prog) (ty:=32) (by kernel_rfl) (by kernel_rfl);have bel:Below w.heap.size w W5:=by have h2:Below w.heap.size w w4:=bx (bx hh.1 hh.2.2.2.1) hb;exact h2.trans (o5.below (B:=w.heap.size) (fun x hx=>by simp at hx;omega) h2.size)
  have L:Hid (q3u bs w (.returned (.tuple #[.agg #[.slice none 0 0,.slice none 0 0,.slice none 0 0,.slice none 0 0,.int .i64 0,.int .i64 0],.int .i64 6])) W5):=hid ⟨bel,Or.inr ⟨hg,rfl⟩⟩;rw[<- I];clear I o5 hh k5 bel hg hb z1;go_wp2;refine bodyPost_ret (v:= .tuple #[_,.int .i64 6]) (q0y rfl _ _ _ _ _ rfl rfl h5) rfl ?_;exact L.out
end
end Go.Proofs.YtibiekfjbibpbaaGreat
