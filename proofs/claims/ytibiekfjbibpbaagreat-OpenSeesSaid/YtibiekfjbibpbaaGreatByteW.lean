import Derived.Test.YtibiekfjbibpbaaGreatDocL
import Derived.Test.YtibiekfjbibpbaaGreatDocK
import Derived.Deep.OwnRows
set_option maxRecDepth 100000
set_option maxHeartbeats 4000000
set_option linter.unusedVariables false
set_option linter.unusedSimpArgs false
namespace Go.Proofs.YtibiekfjbibpbaaGreat
open Go.RowKit
def byC (bs:List Int):Array Value:=(bs.map (Value.int .u8)).toArray
theorem x0w (bs:List Int) (i:Nat) (x:Int):(byC bs).setIfInBounds i (.int .u8 x)=byC (bs.set i x):=by unfold byC;simp[List.map_set]
theorem z2r {bs:List Int} {i:Nat} {x:Int} (h:bs[i]?=some x):(byC bs)[i]?=some (.int .u8 x):=by simp[byC,h]
def putW (bs:List Int) (a x:Nat):List Int:=bs.take a++(List.range 8).map (q0g x)++bs.drop (a+8)
def z3h (bs:List Int) (a x i:Nat):List Int:=bs.take a++(List.range i).map (q0g x)++bs.drop (a+i)
theorem x2o (bs:List Int) (a x:Nat):z3h bs a x 0=bs:=by unfold z3h;simp
theorem v5o (bs:List Int) (a x:Nat):z3h bs a x 8=putW bs a x:=rfl
theorem z7k {bs:List Int} {a:Nat} (x:Nat) {i:Nat} (h:a+i<=bs.length):(z3h bs a x i).length=bs.length:=by unfold z3h;simp;omega
theorem q3n {bs:List Int} {a:Nat} (x:Nat) (h:a+8<=bs.length):(putW bs a x).length=bs.length:=z7k x h
theorem x3e {bs:List Int} {a x i:Nat} (h:a+i<bs.length):(z3h bs a x i).set (a+i) (q0g x i)=z3h bs a x (i+1):=by
 unfold z3h;have h1:(bs.take a++(List.range i).map (q0g x)).length=a+i:=by simp;omega
 rw[CQ _ _ (by omega),h1,Bz,Au h,List.set_cons_zero,Ay,Ah,<- BB,BB _ _ (List.drop _ _)];rfl
theorem v1r {bs:List Int} {a x i:Nat} (h:a+i<bs.length):∃y,(z3h bs a x i)[a+i]?=some y:=⟨_,AD (by rw[z7k x (by omega)];exact h)⟩
theorem q7z {bs:List Int} (h:∀x∈bs,0<=x/\x<256) (a x:Nat):∀y∈putW bs a x,0<=y/\y<256:=by
 intro y hy;unfold putW at hy;rw[An,An] at hy;rcases hy with(hy|hy)|hy;·exact h y (Ab hy)
 ·obtain⟨j,_,rfl⟩:=Aj.1 hy;exact v0u x j
 ·exact h y (Ak hy)
def wdN (bs:List Int) (a:Nat):Int:=leW ((bs.drop a).take 8)
theorem x1h {bs:List Int} {a x i:Nat} (h:a+8<=bs.length):(putW bs a x)[i]?=if i<a then bs[i]? else if i<a+8 then some (q0g x (i-a)) else bs[i]?:=by
 unfold putW;by_cases h1:i<a;·rw[if_pos h1,BB,Aa (by simp;omega),AV,if_pos h1]
 ·rw[if_neg h1];by_cases h2:i<a+8
  ·rw[if_pos h2,Aa (by simp;omega),Ac (by simp;omega)];have e:i- (bs.take a).length=i-a:=by simp;omega
   rw[e,AM,BM (by omega)];rfl
  ·rw[if_neg h2,Ac (by simp;omega),Ar];congr 1;simp;omega
theorem v0q {bs:List Int} {a x:Nat} (h:a+8<=bs.length) (hx:x<18446744073709551616):wdN (putW bs a x) a=x:=by
 unfold wdN
 have:((putW bs a x).drop a).take 8=(List.range 8).map (q0g x):=by
  apply Bf;intro j;rw[AV];by_cases hj:j<8;·rw[if_pos hj,Ar,x1h h,if_neg (by omega),if_pos (by omega),AM,BM hj,Nat.add_sub_cancel_left];rfl
  ·rw[if_neg hj,Ax (by simp;omega)]
 rw[this,x2m hx]
theorem z2z {bs:List Int} {a b x:Nat} (h:a+8<=bs.length) (hb:b+8<=a\/a+8<=b):wdN (putW bs a x) b=wdN bs b:=by
 unfold wdN;congr 1;apply Bf;intro j;rw[AV,AV];by_cases hj:j<8
 ·rw[if_pos hj,if_pos hj,Ar,Ar,x1h h];rcases hb with hb|hb;·rw[if_pos (by omega)]
  ·rw[if_neg (by omega),if_neg (by omega)]
 ·rw[if_neg hj,if_neg hj]
end Go.Proofs.YtibiekfjbibpbaaGreat
namespace Go.Proofs.YtibiekfjbibpbaaGreat
open Go.RowKit
theorem q4m.det {bs:List Int}:∀{es:List (Int×Int)} {R:List Int} {ps I:List (Int×ByteArray)},q4m bs R es ps->q4m bs R es I->ps=I
 | [],_,_,_,h,h'=>by have e:_=[]:=h;have e':_=[]:=h';rw[e,e']
 | e::es,R,_,_,h,h'=>by obtain⟨s,M,h1,rfl,h2⟩:=h;obtain⟨s',L,k1,rfl,k2⟩:=h';have:=z4k h1.2.2 k1.2.2;subst this;rw[q4m.det h2 k2]
theorem z7c {bs:List Int} {rs L:List (List (Int×NodeA))} {ps M:List (Int×ByteArray)} (h:q1a bs rs ps) (h':q1a bs L M):rs=L/\ps=M:=by obtain⟨n1,O,S⟩:=h.rows;obtain⟨n2,I,U⟩:=h'.rows;rw[O] at I;injection I with I;subst I;have e:=S.det U;subst e;obtain⟨l1,g1,v1⟩:=h.vals;obtain⟨l2,g2,v2⟩:=h'.vals;rw[g1] at g2;injection g2 with g2;subst g2;exact⟨rfl,v1.det v2⟩
theorem z6u {bs:List Int} {w w':World} {e:Ending} (I:∀rs ps,¬q1a bs rs ps) (h:q3u bs w e w'):e= .returned (.tuple #[.agg rep0,.int .i64 6])/\Below w.heap.size w w':=by
 obtain⟨hb,(⟨rs,ps,_,_,_,_,_,_,_,L,_⟩|⟨_,rfl⟩)⟩:=h;·exact absurd L (I rs ps)
 ·exact⟨rfl,hb⟩
theorem q6g.of_own {w:World} {N:Nat} {pv rv fv kv:Value} {ps:List (Int×ByteArray)} {R F K:List Int} (hp:w.ownsRow N 48 2 pv ps.length (ps.flatMap q5v)) (hr:rowU w N rv R) (hf:rowU w N fv F) (hk:rowU w N kv K):q6g w pv rv fv kv ps R F K:=by obtain⟨a,c,e⟩:=q0q hp;exact⟨q1b.of_own2 hp (by omega),⟨a,c,e,x3i.of_own hp a _ c e⟩,q1w.of_own hr,q1w.of_own hf,q1w.of_own hk⟩
theorem x8b {bs:List Int} {rs:List (List (Int×NodeA))} {ps:List (Int×ByteArray)} {leaves:List (Int×NodeA)} {w w':World} {e:Ending} (hb:∀x∈bs,0<=x/\x<256) (I:q1a bs rs ps) (hl:rs.getLast?=some leaves) (h:q3u bs w e w'):
  Below w.heap.size w w'/\ ∃pa pc ra rc fa fc ka kc,e= .returned (.tuple #[.agg #[.slice pa ps.length pc,.slice ra (q2i rs leaves).length rc,.slice fa ((q2i rs leaves).filter fun a=>decide (a∉refA bs (nsI bs))).length fc,.slice ka ((refA bs (nsI bs)).filter fun a=>decide (a∉q2i rs leaves)).length kc,.int .i64 (rs.length-1:Int),.int .i64 (q2y rs)],.int .i64 0])/\
   q6g w' (.slice pa ps.length pc) (.slice ra (q2i rs leaves).length rc) (.slice fa ((q2i rs leaves).filter fun a=>decide (a∉refA bs (nsI bs))).length fc) (.slice ka ((refA bs (nsI bs)).filter fun a=>decide (a∉q2i rs leaves)).length kc) ps (q2i rs leaves) ((q2i rs leaves).filter fun a=>decide (a∉refA bs (nsI bs))) ((refA bs (nsI bs)).filter fun a=>decide (a∉q2i rs leaves)):=by
 obtain⟨hbl,(⟨h1,h2,M,R,B,pv,rv,fv,kv,O,L,S,Y,rfl,q1,q2,q3,q4⟩|⟨U,_⟩)⟩:=h;·obtain⟨e1,e2⟩:=z7c O I;subst e1 e2;rw[hl] at L;injection L with L;subst L;have hR:=x3b (z9j I hl) S Y;subst hR;rw[x2e hb I hl S] at q3;rw[x8e] at q4;obtain⟨pa,pc,rfl⟩:=q0q q1.own;obtain⟨ra,rc,rfl⟩:=q0q q2;obtain⟨fa,fc,rfl⟩:=q0q q3;obtain⟨ka,kc,rfl⟩:=q0q q4;exact⟨hbl,pa,pc,ra,rc,fa,fc,ka,kc,rfl,q6g.of_own q1.own q2 q3 q4⟩
 ·exact absurd I (U rs ps)
theorem v6c:∀rs ps,¬q1a (List.replicate 2048 0) rs ps:=fun rs ps h=>absurd h.sup.1 (by decide+kernel)
attribute [local go_sem ↓ high] q6v q7f q7e z2o
attribute [local go_sem] q1x q1p q1v q2t
end Go.Proofs.YtibiekfjbibpbaaGreat
namespace Go.Proofs.YtibiekfjbibpbaaGreat
open Go.RowKit
def z3f (h nn err:Int) (ps:List (Int×ByteArray)) (R F K:List Int) (e:Ending) (w':World):Prop:=
 ∃pa pc ra rc fa fc ka kc,e= .returned (.tuple #[.agg #[.slice pa ps.length pc,.slice ra R.length rc,.slice fa F.length fc,.slice ka K.length kc,.int .i64 h,.int .i64 nn],.int .i64 err])/\
  q6g w' (.slice pa ps.length pc) (.slice ra R.length rc) (.slice fa F.length fc) (.slice ka K.length kc) ps R F K
theorem z1j (w':World):z3f 0 0 6 [] [] [] [] (.returned (.tuple #[.agg rep0,.int .i64 6])) w':=⟨none,0,none,0,none,0,none,0,rfl,⟨Or.inl ⟨rfl,rfl,rfl⟩,⟨none,0,rfl,AG _⟩,⟨none,0,rfl,Or.inl rfl⟩,⟨none,0,rfl,Or.inl rfl⟩,⟨none,0,rfl,Or.inl rfl⟩⟩⟩
theorem x2c {bs:List Int}:∀{es:List (Int×Int)} {R:List Int} {ps:List (Int×ByteArray)},q4m bs R es ps->ps.length=es.length
 | [],_,_,h=>by have e:_=[]:=h;rw[e];rfl
 | e::es,R,_,h=>by obtain⟨s,I,_,rfl,h2⟩:=h;rw[BE,BE,x2c h2]
attribute [local go_sem ↓ high] q6v q7f q7e z2o q0v
attribute [local go_sem] q1x q1p q1v q2t Oper.semAt_some q0h
end Go.Proofs.YtibiekfjbibpbaaGreat
