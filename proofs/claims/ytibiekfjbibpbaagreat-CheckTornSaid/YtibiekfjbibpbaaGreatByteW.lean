import Derived.Test.YtibiekfjbibpbaaGreatDocL
import Derived.Test.YtibiekfjbibpbaaGreatDocK
import Derived.Deep.OwnRows
set_option maxRecDepth 100000
set_option maxHeartbeats 4000000
set_option linter.unusedVariables false
set_option linter.unusedSimpArgs false
namespace Go.Proofs.YtibiekfjbibpbaaGreat
open Go.RowKit
def byC (bs:List Int):Array Value:=(bs.map (Value.int .u8)).toArray
theorem x0w (bs:List Int) (i:Nat) (x:Int):(byC bs).setIfInBounds i (.int .u8 x)=byC (bs.set i x):=by unfold byC;simp[List.map_set]
theorem z2r {bs:List Int} {i:Nat} {x:Int} (h:bs[i]?=some x):(byC bs)[i]?=some (.int .u8 x):=by simp[byC,h]
def putW (bs:List Int) (a x:Nat):List Int:=bs.take a++(List.range 8).map (q0g x)++bs.drop (a+8)
def z3h (bs:List Int) (a x i:Nat):List Int:=bs.take a++(List.range i).map (q0g x)++bs.drop (a+i)
theorem x2o (bs:List Int) (a x:Nat):z3h bs a x 0=bs:=by unfold z3h;simp
theorem v5o (bs:List Int) (a x:Nat):z3h bs a x 8=putW bs a x:=rfl
theorem z7k {bs:List Int} {a:Nat} (x:Nat) {i:Nat} (h:a+i<=bs.length):(z3h bs a x i).length=bs.length:=by unfold z3h;simp;omega
theorem q3n {bs:List Int} {a:Nat} (x:Nat) (h:a+8<=bs.length):(putW bs a x).length=bs.length:=z7k x h
theorem x3e {bs:List Int} {a x i:Nat} (h:a+i<bs.length):(z3h bs a x i).set (a+i) (q0g x i)=z3h bs a x (i+1):=by
 unfold z3h;have h1:(bs.take a++(List.range i).map (q0g x)).length=a+i:=by simp;omega
 rw[CQ _ _ (by omega),h1,Bz,Au h,List.set_cons_zero,Ay,Ah,<- BB,BB _ _ (List.drop _ _)];rfl
theorem v1r {bs:List Int} {a x i:Nat} (h:a+i<bs.length):∃y,(z3h bs a x i)[a+i]?=some y:=⟨_,AD (by rw[z7k x (by omega)];exact h)⟩
theorem q7z {bs:List Int} (h:∀x∈bs,0<=x/\x<256) (a x:Nat):∀y∈putW bs a x,0<=y/\y<256:=by
 intro y hy;unfold putW at hy;rw[An,An] at hy;rcases hy with(hy|hy)|hy;·exact h y (Ab hy)
 ·obtain⟨j,_,rfl⟩:=Aj.1 hy;exact v0u x j
 ·exact h y (Ak hy)
def wdN (bs:List Int) (a:Nat):Int:=leW ((bs.drop a).take 8)
theorem x1h {bs:List Int} {a x i:Nat} (h:a+8<=bs.length):(putW bs a x)[i]?=if i<a then bs[i]? else if i<a+8 then some (q0g x (i-a)) else bs[i]?:=by
 unfold putW;by_cases h1:i<a;·rw[if_pos h1,BB,Aa (by simp;omega),AV,if_pos h1]
 ·rw[if_neg h1];by_cases h2:i<a+8
  ·rw[if_pos h2,Aa (by simp;omega),Ac (by simp;omega)];have e:i- (bs.take a).length=i-a:=by simp;omega
   rw[e,AM,BM (by omega)];rfl
  ·rw[if_neg h2,Ac (by simp;omega),Ar];congr 1;simp;omega
theorem v0q {bs:List Int} {a x:Nat} (h:a+8<=bs.length) (hx:x<18446744073709551616):wdN (putW bs a x) a=x:=by
 unfold wdN
 have:((putW bs a x).drop a).take 8=(List.range 8).map (q0g x):=by
  apply Bf;intro j;rw[AV];by_cases hj:j<8;·rw[if_pos hj,Ar,x1h h,if_neg (by omega),if_pos (by omega),AM,BM hj,Nat.add_sub_cancel_left];rfl
  ·rw[if_neg hj,Ax (by simp;omega)]
 rw[this,x2m hx]
theorem z2z {bs:List Int} {a b x:Nat} (h:a+8<=bs.length) (hb:b+8<=a\/a+8<=b):wdN (putW bs a x) b=wdN bs b:=by
 unfold wdN;congr 1;apply Bf;intro j;rw[AV,AV];by_cases hj:j<8
 ·rw[if_pos hj,if_pos hj,Ar,Ar,x1h h];rcases hb with hb|hb;·rw[if_pos (by omega)]
  ·rw[if_neg (by omega),if_neg (by omega)]
 ·rw[if_neg hj,if_neg hj]
theorem v5b:(Tryz.prog.info? 5).map (fun i=>(i.zero,i.size,i.bytes))=some (some (.int .u8 0),1,1):=by kernel_rfl
def z0v (w:World) (v:Value) (bs:List Int):Prop:=(∀x∈bs,0<=x/\x<256)/\((v= .slice none 0 0/\bs=[])\/ ∃a cap,v= .slice (some a) bs.length cap/\bs.length<=cap/\cap<=maxLen/\(bs=[]\/ ∃b off,a=⟨b,off,none⟩/\b<w.heap.size/\ ∀i x,bs[i]?=some x->w.cell? ⟨b,off+i,none⟩=some (.int .u8 x)))
theorem z0v.bel {w w':World} {v:Value} {bs:List Int} (h:z0v w v bs) (hb:Below w.heap.size w w'):z0v w' v bs:=by
 refine⟨h.1,?_⟩;rcases h.2 with h|⟨a,cap,h1,h2,h3,h4⟩;·exact Or.inl h
 ·refine Or.inr ⟨a,cap,h1,h2,h3,?_⟩;rcases h4 with h4|⟨b,off,h4,h5,h6⟩;·exact Or.inl h4
  ·exact Or.inr ⟨b,off,h4,AL h5 hb.size,fun i x hi=>(hb.cell (p:=⟨b,off+i,none⟩) h5).trans (h6 i x hi)⟩
theorem z0v.form {w:World} {v:Value} {bs:List Int} (h:z0v w v bs):∃ao cap,v= .slice ao bs.length cap/\q1m w ao cap bs/\cap<=9223372036854775807:=by
 rcases h.2 with⟨rfl,rfl⟩|⟨a,cap,rfl,h2,h3,h4⟩;·exact⟨none,0,rfl,⟨AG _,h.1,fun hp=>by simp at hp⟩,by omega⟩
 ·refine⟨some a,cap,rfl,⟨h2,h.1,fun hp=> ?_⟩,by unfold maxLen at h3;omega⟩;rcases h4 with h4|⟨b,off,rfl,h5,h6⟩;·rw[h4] at hp;simp at hp
  ·exact⟨b,off,rfl,h5,h6⟩
theorem v0j (a:Addr) (c:Nat) (w:World):q0n Tryz.prog #[36,36] 36 #[.slice none 0 0,.slice (some a) 0 c] w= .ok (.slice none 0 0) w:=by kernel_rfl
theorem v4v {w:World} {p:Option Addr} {cap:Nat} {bs:List Int} (h:z0v w (.slice p bs.length cap) bs) (hl:bs.length<=1000000):
  ∃p' I w',q0n Tryz.prog #[36,36] 36 #[.slice none 0 0,.slice p bs.length cap] w= .ok (.slice p' bs.length I) w'/\z0v w' (.slice p' bs.length I) bs/\(∀b off,p'=some ⟨b,off,none⟩->w.heap.size<=b)/\Below w.heap.size w w':=by
 obtain⟨i0,S,Y,hf,h1⟩:=info_parts v5b;rcases h.2 with⟨e,hb⟩|⟨a,I,e,h2,h3,h4⟩;·subst hb;injection e with e1 _ e3;subst e1 e3;have hr:=run_append_owned_none (P:=Tryz.prog) w w.heap.size 36 36 5 i0 1 Tryz.underlying36 S (.slice none 0 0) 0 [] (World.ownsRow_nil _ _ _ _);exact⟨none,0,w,hr,⟨h.1,Or.inl ⟨rfl,rfl⟩⟩,(fun b off e=>by cases e),Below.refl _ _⟩
 ·injection e with e1 _ e3;subst e1 e3;rcases h4 with hb|⟨b,off,rfl,h5,h6⟩;·subst hb;exact⟨none,0,w,v0j _ _ _,⟨h.1,Or.inl ⟨rfl,rfl⟩⟩,(fun b off e=>by cases e),Below.refl _ _⟩
  ·obtain⟨v',w',q⟩:=q2b (P:=Tryz.prog) w w.heap.size 36 36 5 i0 (.int .u8 0) 1 1 Tryz.underlying36 S Y hf h1 rfl (by decide) (.slice none 0 0) 0 [] (World.ownsRow_nil _ _ _ _) (.slice (some ⟨b,off,none⟩) bs.length cap) bs.length (bs.map (Value.int .u8)) (Or.inr ⟨b,off,_,rfl,fun j u hj=>by
    rw[AM] at hj;obtain⟨x,hx,rfl⟩:=BX.1 hj;exact h6 j x hx⟩) (by simp) (by
    intro u hu;obtain⟨y,_,rfl⟩:=Aj.1 hu;rfl) (by unfold maxLen;omega) (by omega) (AG _)
   have ho:Only [] w w':=Only.of_grown q.grown (fun k hk=>by simp[Value.ownBlock] at hk);have L:=q.own;rw[AQ,Bi] at L;have M:=q.run;rcases L.2 with⟨rfl,h7⟩|⟨g,I,O,rfl,h7,h8,h9,U,hg,ha⟩;·have he:bs=[]:=Am.1 h7;subst he;exact⟨none,0,w',M,⟨h.1,Or.inl ⟨rfl,rfl⟩⟩,(fun b off e=>by cases e),ho.below (by simp) (AG _)⟩
   ·refine⟨some ⟨g,0,none⟩,I,w',M,⟨h.1,Or.inr ⟨_,_,rfl,h9,U,Or.inr ⟨g,0,rfl,(AA.1 h8).1,fun i x hi=> ?_⟩⟩⟩,fun b off e=> ?_,ho.below (by simp) (AG _)⟩
    ·have hc:Blk w' g _ O:=h8;rw[hc.cell,AQ,<- Ad];have hl:=(AE.1 hi).1;have:(O.toList.take (bs.length*1))[i]?=some (.int .u8 x):=by rw[ha,AM,hi];rfl
     rw[AV,if_pos (by omega)] at this;exact this
    ·injection e with e;injection e with e;omega
theorem x8d {w:World} {p:Option Addr} {cap:Nat} {bs:List Int} (h:z0v w (.slice p bs.length cap) bs):(convert 36 9 (.slice p bs.length cap)).run Tryz.prog w= .ok (.string (strOfNums bs)) w:=by
 by_cases h0:bs=[];·subst h0;rw[Cf,run_convert_bytes_string (P:=Tryz.prog) w 36 9 5 p 0 cap Tryz.underlying36 Tryz.underlying5 Tryz.underlying9];cases p<;>simp[Conv.bytesToString,loadCells];all_goals rfl
 ·rcases h.2 with⟨_,hb⟩|⟨a,I,e,h2,h3,h4⟩;·exact absurd hb h0
  ·injection e with e1 _ e3;subst e1 e3;obtain⟨b,off,rfl,h5,h6⟩:=h4.resolve_left h0;refine run_convert_bytes_arg (P:=Tryz.prog) w 36 5 Tryz.underlying36 Tryz.underlying5 b off bs.length cap bs rfl (fun i hi=> ?_) 9 Tryz.underlying9;rw[Ag,AD hi];exact h6 i _ (AD hi)
end Go.Proofs.YtibiekfjbibpbaaGreat
namespace Go.Proofs.YtibiekfjbibpbaaGreat
open Go.RowKit
theorem q4m.det {bs:List Int}:∀{es:List (Int×Int)} {R:List Int} {ps I:List (Int×ByteArray)},q4m bs R es ps->q4m bs R es I->ps=I
 | [],_,_,_,h,h'=>by have e:_=[]:=h;have e':_=[]:=h';rw[e,e']
 | e::es,R,_,_,h,h'=>by obtain⟨s,M,h1,rfl,h2⟩:=h;obtain⟨s',L,k1,rfl,k2⟩:=h';have:=z4k h1.2.2 k1.2.2;subst this;rw[q4m.det h2 k2]
theorem z7c {bs:List Int} {rs L:List (List (Int×NodeA))} {ps M:List (Int×ByteArray)} (h:q1a bs rs ps) (h':q1a bs L M):rs=L/\ps=M:=by obtain⟨n1,O,S⟩:=h.rows;obtain⟨n2,I,U⟩:=h'.rows;rw[O] at I;injection I with I;subst I;have e:=S.det U;subst e;obtain⟨l1,g1,v1⟩:=h.vals;obtain⟨l2,g2,v2⟩:=h'.vals;rw[g1] at g2;injection g2 with g2;subst g2;exact⟨rfl,v1.det v2⟩
theorem z6u {bs:List Int} {w w':World} {e:Ending} (I:∀rs ps,¬q1a bs rs ps) (h:q3u bs w e w'):e= .returned (.tuple #[.agg rep0,.int .i64 6])/\Below w.heap.size w w':=by
 obtain⟨hb,(⟨rs,ps,_,_,_,_,_,_,_,L,_⟩|⟨_,rfl⟩)⟩:=h;·exact absurd L (I rs ps)
 ·exact⟨rfl,hb⟩
theorem q6g.of_own {w:World} {N:Nat} {pv rv fv kv:Value} {ps:List (Int×ByteArray)} {R F K:List Int} (hp:w.ownsRow N 48 2 pv ps.length (ps.flatMap q5v)) (hr:rowU w N rv R) (hf:rowU w N fv F) (hk:rowU w N kv K):q6g w pv rv fv kv ps R F K:=by obtain⟨a,c,e⟩:=q0q hp;exact⟨q1b.of_own2 hp (by omega),⟨a,c,e,x3i.of_own hp a _ c e⟩,q1w.of_own hr,q1w.of_own hf,q1w.of_own hk⟩
theorem x8b {bs:List Int} {rs:List (List (Int×NodeA))} {ps:List (Int×ByteArray)} {leaves:List (Int×NodeA)} {w w':World} {e:Ending} (hb:∀x∈bs,0<=x/\x<256) (I:q1a bs rs ps) (hl:rs.getLast?=some leaves) (h:q3u bs w e w'):
  Below w.heap.size w w'/\ ∃pa pc ra rc fa fc ka kc,e= .returned (.tuple #[.agg #[.slice pa ps.length pc,.slice ra (q2i rs leaves).length rc,.slice fa ((q2i rs leaves).filter fun a=>decide (a∉refA bs (nsI bs))).length fc,.slice ka ((refA bs (nsI bs)).filter fun a=>decide (a∉q2i rs leaves)).length kc,.int .i64 (rs.length-1:Int),.int .i64 (q2y rs)],.int .i64 0])/\
   q6g w' (.slice pa ps.length pc) (.slice ra (q2i rs leaves).length rc) (.slice fa ((q2i rs leaves).filter fun a=>decide (a∉refA bs (nsI bs))).length fc) (.slice ka ((refA bs (nsI bs)).filter fun a=>decide (a∉q2i rs leaves)).length kc) ps (q2i rs leaves) ((q2i rs leaves).filter fun a=>decide (a∉refA bs (nsI bs))) ((refA bs (nsI bs)).filter fun a=>decide (a∉q2i rs leaves)):=by
 obtain⟨hbl,(⟨h1,h2,M,R,B,pv,rv,fv,kv,O,L,S,Y,rfl,q1,q2,q3,q4⟩|⟨U,_⟩)⟩:=h;·obtain⟨e1,e2⟩:=z7c O I;subst e1 e2;rw[hl] at L;injection L with L;subst L;have hR:=x3b (z9j I hl) S Y;subst hR;rw[x2e hb I hl S] at q3;rw[x8e] at q4;obtain⟨pa,pc,rfl⟩:=q0q q1.own;obtain⟨ra,rc,rfl⟩:=q0q q2;obtain⟨fa,fc,rfl⟩:=q0q q3;obtain⟨ka,kc,rfl⟩:=q0q q4;exact⟨hbl,pa,pc,ra,rc,fa,fc,ka,kc,rfl,q6g.of_own q1.own q2 q3 q4⟩
 ·exact absurd I (U rs ps)
theorem v6c:∀rs ps,¬q1a (List.replicate 2048 0) rs ps:=fun rs ps h=>absurd h.sup.1 (by decide+kernel)
attribute [local go_sem ↓ high] q6v q7f q7e z2o
attribute [local go_sem] q1x q1p q1v q2t
end Go.Proofs.YtibiekfjbibpbaaGreat
namespace Go.Proofs.YtibiekfjbibpbaaGreat
open Go.RowKit
def z3f (h nn err:Int) (ps:List (Int×ByteArray)) (R F K:List Int) (e:Ending) (w':World):Prop:=
 ∃pa pc ra rc fa fc ka kc,e= .returned (.tuple #[.agg #[.slice pa ps.length pc,.slice ra R.length rc,.slice fa F.length fc,.slice ka K.length kc,.int .i64 h,.int .i64 nn],.int .i64 err])/\
  q6g w' (.slice pa ps.length pc) (.slice ra R.length rc) (.slice fa F.length fc) (.slice ka K.length kc) ps R F K
theorem x3a {bs:List Int} {w w':World} {e:Ending} (I:∀rs ps,¬q1a bs rs ps) (h:q6r bs w e w'):e= .returned (.tuple #[.agg rep0,.int .i64 6])/\Below w.heap.size w w':=by
 obtain⟨hb,(⟨rs,ps,_,_,_,_,_,L,_⟩|⟨_,rfl⟩)⟩:=h;·exact absurd L (I rs ps)
 ·exact⟨rfl,hb⟩
theorem x3x {bs:List Int} {rs:List (List (Int×NodeA))} {ps:List (Int×ByteArray)} {leaves:List (Int×NodeA)} {w w':World} {e:Ending} (O:q1a bs rs ps) (hl:rs.getLast?=some leaves) (h:q6r bs w e w'):
  Below w.heap.size w w'/\z3f (rs.length-1:Int) (q2y rs) 0 ps (q2i rs leaves) ((q2i rs leaves).filter fun a=>decide (a∉refA bs (nsI bs))) ((refA bs (nsI bs)).filter fun a=>decide (a∉q2i rs leaves)) e w':=by
 obtain⟨hbl,(⟨U,Y,L,pv,rv,fv,kv,M,I,rfl,q1,q2,q3,q4⟩|⟨S,_⟩)⟩:=h;·obtain⟨e1,e2⟩:=z7c M O;subst e1 e2;rw[hl] at I;injection I with I;subst I;obtain⟨pa,pc,rfl⟩:=q0q q1;obtain⟨ra,rc,rfl⟩:=q0q q2;obtain⟨fa,fc,rfl⟩:=q0q q3;obtain⟨ka,kc,rfl⟩:=q0q q4;exact⟨hbl,pa,pc,ra,rc,fa,fc,ka,kc,rfl,q6g.of_own q1 q2 q3 q4⟩
 ·exact absurd O (S rs ps)
theorem z1j (w':World):z3f 0 0 6 [] [] [] [] (.returned (.tuple #[.agg rep0,.int .i64 6])) w':=⟨none,0,none,0,none,0,none,0,rfl,⟨Or.inl ⟨rfl,rfl,rfl⟩,⟨none,0,rfl,AG _⟩,⟨none,0,rfl,Or.inl rfl⟩,⟨none,0,rfl,Or.inl rfl⟩,⟨none,0,rfl,Or.inl rfl⟩⟩⟩
theorem x2c {bs:List Int}:∀{es:List (Int×Int)} {R:List Int} {ps:List (Int×ByteArray)},q4m bs R es ps->ps.length=es.length
 | [],_,_,h=>by have e:_=[]:=h;rw[e];rfl
 | e::es,R,_,h=>by obtain⟨s,I,_,rfl,h2⟩:=h;rw[BE,BE,x2c h2]
theorem x3s {bs:List Int} (hb:∀x∈bs,0<=x/\x<256):∃(h nn L:Int) (ps:List (Int×ByteArray)) (R F K:List Int),(L=0\/L=6/\h=0/\nn=0/\ps=[]/\R=[]/\F=[]/\K=[])/\(∀p∈ps,(0<=p.1/\p.1<=18446744073709551615)/\p.2.size<=120)/\(ps.length<=1000000/\R.length<=1000000/\F.length<=1000000/\K.length<=1000000)/\
  (∀w w' e,q3u bs w e w'->Below w.heap.size w w'/\z3f h nn L ps R F K e w')/\(∀w w' e,q6r bs w e w'->Below w.heap.size w w'/\z3f h nn L ps R F K e w'):=by
 by_cases hex:∃rs ps,q1a bs rs ps
 ·obtain⟨rs,ps,I⟩:=hex;obtain⟨leaves,hl,hv⟩:=I.vals;have M:=x2n hb (rs:=rs) ⟨I.slabs,I.sup,I.rows⟩;have q1:=z1n (allA rs++(allE leaves).map (·.2)) [];have q2:=z1c M.2.2.1 rs.length;have q3:rs.length*8320<=16*8320:=Bp _ M.1;have q4:=z1h leaves;have q5:=M.2.2.1 leaves (Bo hl);have q6:=x2c hv;rw[BH] at q2;rw[AI,AO,Cf] at q1;have q7:(q2i rs leaves).length<=1000000:=by unfold q2i;omega
  have q8:(refA bs (nsI bs)).length<=1000000:=by have h1:=z1f bs (nsI bs);have h2:=congrArg List.length (z5b bs (nsI bs));rw[AO] at h2;have h3:=q1s I.slabs.1;unfold nsI at*;omega
  have q9:=Ao (fun a=>decide (a∉refA bs (nsI bs))) (q2i rs leaves);have S:=Ao (fun a=>decide (a∉q2i rs leaves)) (refA bs (nsI bs));refine⟨_,_,0,ps,q2i rs leaves,_,_,Or.inl rfl,z9b hb I,⟨by omega,q7,by omega,by omega⟩,fun w w' e h=> ?_,fun w w' e h=>x3x I hl h⟩;obtain⟨h1,pa,pc,ra,rc,fa,fc,ka,kc,h2,h3⟩:=x8b hb I hl h;exact⟨h1,pa,pc,ra,rc,fa,fc,ka,kc,h2,h3⟩
 ·have O:∀rs ps,¬q1a bs rs ps:=fun rs ps h=>hex ⟨rs,ps,h⟩;refine⟨0,0,6,[],[],[],[],Or.inr ⟨rfl,rfl,rfl,rfl,rfl,rfl,rfl⟩,(fun p hp=>by cases hp),by simp,fun w w' e h=> ?_,fun w w' e h=> ?_⟩;·obtain⟨rfl,h2⟩:=z6u O h;exact⟨h2,z1j w'⟩
  ·obtain⟨rfl,h2⟩:=x3a O h;exact⟨h2,z1j w'⟩
attribute [local go_sem ↓ high] q6v q7f q7e z2o q0v
attribute [local go_sem] q1x q1p q1v q2t Oper.semAt_some q0h
end Go.Proofs.YtibiekfjbibpbaaGreat
