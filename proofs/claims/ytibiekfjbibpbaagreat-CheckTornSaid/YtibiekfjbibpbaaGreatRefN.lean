import Derived.Test.YtibiekfjbibpbaaGreatRef5
import Derived.Test.YtibiekfjbibpbaaGreatRefW
set_option maxRecDepth 100000
set_option maxHeartbeats 1000000
set_option linter.unusedVariables false
set_option linter.unusedSimpArgs false
namespace Go.Proofs.YtibiekfjbibpbaaGreat
open Go.RowKit
theorem z1t {α:Type} (f:α->List Value) (h2:∀x,(f x).length=2):∀(l:List α) (i:Nat) (x:α),l[i]?=some x->(l.flatMap f)[i*2]?=(f x)[0]?/\(l.flatMap f)[i*2+1]?=(f x)[1]?
 | [],i,x,h=>by simp at h
 | y::l,0,x,h=>by simp at h;subst h;rw[Ap,Aa (by rw[h2];omega),Aa (by rw[h2];omega)];exact⟨rfl,rfl⟩
 | y::l,i+1,x,h=>by simp at h;have:=z1t f h2 l i x h;rw[Ap,Ac (by rw[h2];omega),Ac (by rw[h2];omega),h2];rw[show(i+1)*2-2=i*2 by omega,show(i+1)*2+1-2=i*2+1 by omega];exact this
theorem q2l.blkAt {w:World} {N g:Nat} {size:Int} {cs:List Int} {ls:List (Int×Int)} {vC vL:Value} (h:q2l w N g size cs ls vC vL):
  (vL= .slice none 0 0/\ls=[])\/ ∃b cap,vL= .slice (some ⟨b,0,none⟩) ls.length cap/\ ∀i x,ls[i]?=some x->w.cell? ⟨b,i*2,none⟩=some (.int .u64 x.1)/\w.cell? ⟨b,i*2+1,none⟩=some (.int .i64 x.2):=by
 rcases h.rl.2 with⟨h1,h2⟩|⟨b,cap,I,h1,h2,h3,h4,h5,h6,h7⟩;·exact Or.inl ⟨h1,Am.1 h2⟩
 ·refine Or.inr ⟨b,cap,h1,fun i x hi=> ?_⟩;have hc:Blk w b _ I:=h3;have hl:i<ls.length:=(AE.1 hi).1;have hf:=z1t blkC (fun _=>rfl) ls i x hi;rw[<- h7,AV,if_pos (by omega),AV,if_pos (by omega)] at hf;rw[hc.cell,hc.cell,<- Ad,<- Ad];exact hf
theorem v1w {ls:List (Int×Int)} {a:Int} {i:Nat} {x:Int×Int} (hx:ls[i]?=some x) (hm:a∉ (ls.take i).map (·.1)):(x.1=a->z7s ls a=x.2)/\(x.1≠a->a∉ (ls.take (i+1)).map (·.1)):=by
 constructor
 ·intro e;obtain⟨hl,L⟩:=AE.1 hx;have h1:ls=ls.take i++x::ls.drop (i+1):=by have h3:=CR i ls;rw[Au hl,L] at h3;exact h3.symm
  have h2:∀l r,a∉ (l:List (Int×Int)).map (·.1)->z7s (l++x::r) a=x.2:=by
   intro l r
   induction l with
   | nil=>intro _;show(if x.1=a then x.2 else _)=_;rw[if_pos e]
   | cons y l ih=>intro h;simp at h;show(if y.1=a then y.2 else z7s (l++x::r) a)=_;rw[if_neg (fun e=>h.1 e.symm),ih (by simpa using h.2)]
  rw[h1];exact h2 _ _ hm
 ·intro I h;rw[Ai,hx,Ah,An] at h;rcases h with h|h;·exact hm h
  ·simp at h;exact I h.symm
theorem y0h (N g:Nat) (size:Int) (cs:List Int) (ls:List (Int×Int)) (vC vL:Value) (a:Int) (w:World) (h:q2l w N g size cs ls vC vL) (hl:ls.length<=1000000000):
  Calls Tryz.prog 139 #[.pointer (some ⟨g,0,none⟩),.int .u64 a] w fun e w'=>e= .returned (.int .i64 (z7s ls a))/\w=w':=by
 have y2:w.cell? ⟨g,2,none⟩=some vL:=h.blk.cell 2;obtain⟨n,hn⟩:∃n,n=ls.length:=⟨_,rfl⟩;rcases h.blkAt with⟨rfl,rfl⟩|⟨b,cap,rfl,L⟩
 ·clear h hl;go_enter Tryz.func139,Tryz.ntmps139;go_wp2;go_loopw [5] (fun vi wr=>vi= .int .i64 0/\w=wr) (fun vi _=>0);case atStart=>exact⟨rfl,rfl⟩
  case round=>obtain⟨rfl,rfl⟩:=hrel;go_wp2;go_ret;exact⟨rfl,rfl⟩
 ·rw[<- hn] at y2;have HN:=hid hn;have O:=hid L;have n9:n<=1000000000:=by omega
  clear L h hl hn;go_enter Tryz.func139,Tryz.ntmps139;go_wp2;go_loopw [5] (fun vi wr=> ∃i:Nat,vi= .int .i64 (i:Int)/\i<=n/\w=wr/\Hid (a∉ (ls.take i).map (·.1))) (fun vi _=>n- (intOf vi).toNat);case atStart=>exact⟨0,rfl,Af _,rfl,(by simp:a∉ (ls.take 0).map (·.1))⟩
  case round=>
   obtain⟨i,rfl,hi,rfl,hm⟩:=hrel;have i0:(0:Int)<=(i:Int):=by omega
   by_cases hlt:i<n
   ·obtain⟨x,hx⟩:∃x,ls[i]?=some x:=⟨_,AD (by rw[<- HN.out];exact hlt)⟩;obtain⟨y3,y4⟩:=O.out i x hx;have i1:(i:Int)< (n:Int):=by omega
    have HS:=hid (v1w hx hm.out);obtain⟨xa,xi⟩:=x;clear hx;by_cases he:xa=a
    ·have e1:(xa==a)=true:=by simp[he]
     have hg:=hid (HS.out.1 he);clear he;go_wp2;go_ret;exact⟨by rw[hg.out];rfl,rfl⟩
    ·have e1:(xa==a)=false:=by simp[he]
     have M:=hid (HS.out.2 he);clear he;go_wp2;go_roundw;case rel=>exact⟨i+1,by go_num,hlt,trivial,M⟩
     case measure=>simp[intOf];omega
   ·have i1: ¬(i:Int)< (n:Int):=by omega
    have I:i=n:=by omega
    have hg:Hid (z7s ls a=0):=by have:=hm.out;rw[I,HN.out,BH] at this;exact x7v this
    clear hi hlt I;go_wp2;go_ret;exact⟨by rw[hg.out];rfl,rfl⟩
theorem z9o (u v:Value) (xs ys:List Int) (w:World) (hu:q1w .u64 w u xs) (hv:q1w .u64 w v ys) (hl:xs.length<=1000000000) (hk:ys.length<=1000000000):
  Calls Tryz.prog 44 #[u,v] w fun e w'=>e= .returned (.bool (decide (xs=ys)))/\Below w.heap.size w w':=by
 obtain⟨uo,h4,rfl,h3⟩:=hu;obtain⟨vo,h5,rfl,U⟩:=hv;obtain⟨n,hn⟩:∃n,n=xs.length:=⟨_,rfl⟩;obtain⟨m,hm⟩:∃m,m=ys.length:=⟨_,rfl⟩;rw[<- hn,<- hm];have HN:=hid hn;have HM:=hid hm;have HU:=hid h3;have HV:=hid U;have n9:n<=1000000000:=by omega
 have m9:m<=1000000000:=by omega
 clear h3 U hl hk hn hm;by_cases I:n=m
 ·have e0:((n:Int) !=(m:Int))=false:=by simp[I]
  have Y:=hid I;clear I;go_enter Tryz.func44,Tryz.ntmps44;go_wp2;go_loopw [5] (fun vi wr=> ∃i:Nat,vi= .int .i64 (i:Int)/\i<=n/\Hid (Below w.heap.size w wr)/\Hid (xs.take i=ys.take i)) (fun vi _=>n- (intOf vi).toNat);case atStart=>exact⟨0,rfl,Af _,Below.refl _ _,(by simp:xs.take 0=ys.take 0)⟩
  case round=>
   obtain⟨i,rfl,hi,hB,hT⟩:=hrel;have i0:(0:Int)<=(i:Int):=by omega
   by_cases hlt:i<n
   ·have I:=Y.out;have O:i<m:=by omega
    obtain⟨x,hx⟩:∃x,xs[i]?=some x:=⟨_,AD (by rw[<- HN.out];exact hlt)⟩;obtain⟨y,hy⟩:∃y,ys[i]?=some y:=⟨_,AD (by rw[<- HM.out];exact O)⟩
    obtain⟨b,off,rfl,hbl,hc⟩:∃b off,uo=some ⟨b,off,none⟩/\b<w.heap.size/\ ∀i x,xs[i]?=some x->w.cell? ⟨b,off+i,none⟩=some (.int .u64 x):=by
     rcases HU.out with h0|h0;·exfalso;rw[h0] at hx;simp at hx
     ·exact h0
    obtain⟨b',M,rfl,L,h2⟩:∃b off,vo=some ⟨b,off,none⟩/\b<w.heap.size/\ ∀i x,ys[i]?=some x->w.cell? ⟨b,off+i,none⟩=some (.int .u64 x):=by
     rcases HV.out with h0|h0;·exfalso;rw[h0] at hy;simp at hy
     ·exact h0
    have y1:wr.cell? ⟨b,off+i,none⟩=some (.int .u64 x):=(hB.out.cell (p:=⟨b,off+i,none⟩) hbl).trans (hc i x hx);have y2:wr.cell? ⟨b',M+i,none⟩=some (.int .u64 y):=(hB.out.cell (p:=⟨b',M+i,none⟩) L).trans (h2 i y hy);have i1:(i:Int)< (n:Int):=by omega
    have i2:(i:Int)< (m:Int):=by omega
    have HX:=hid hx;have HY:=hid hy;clear hc hbl h2 L hx hy I O;by_cases he:x=y
    ·have e1:(x !=y)=false:=by simp[he]
     have h7:Hid (xs.take (i+1)=ys.take (i+1)):=by show xs.take (i+1)=ys.take (i+1);rw[Ai,Ai,hT.out,HX.out,HY.out,he]
     have S:=hid (hB.out.drew);clear he;go_wp2;go_region;all_goals go_wp2
     go_roundw;case rel=>exact⟨i+1,by go_num,hlt,S,h7⟩
     case measure=>simp[intOf];omega
    ·have e1:(x !=y)=true:=by simp[he]
     have hd:Hid (decide (xs=ys)=false):=AK (fun e=>he (by have h1:=HX.out;rw[e,HY.out] at h1;injection h1 with h1;exact h1.symm));have S:=hid (hB.out.drew);clear he;go_wp2;go_region;all_goals go_wp2
     go_ret;exact⟨by rw[hd.out];rfl,S.out⟩
   ·have i1: ¬(i:Int)< (n:Int):=by omega
    have h6:i=n:=by omega
    have hd:Hid (decide (xs=ys)=true):=by have:=hT.out;have I:=Y.out;have hn:=HN.out;have hm:=HM.out;rw[AY (by omega),AY (by omega)] at this;exact AT this
    clear hi hlt h6;go_wp2;go_ret;exact⟨by rw[hd.out];rfl,hB.out⟩
 ·have e0:((n:Int) !=(m:Int))=true:=by simp;omega
  have hd:Hid (decide (xs=ys)=false):=AK (fun e=>I (by rw[HN.out,HM.out,e]));clear I;go_enter Tryz.func44,Tryz.ntmps44;go_wp2;go_ret;exact⟨by rw[hd.out];rfl,Below.refl _ _⟩
def z9m (ls:List (Int×Int)):List Int:=(ls.filter fun x=>decide (x.2=2) || decide (x.2=3)).map (·.1)
def q9u (ls:List (Int×Int)):List Int:=(z9m ls).foldl insA []
theorem x6i (ls:List (Int×Int)) (i:Nat) (x:Int×Int) (hx:ls[i]?=some x):z9m (ls.take (i+1))=z9m (ls.take i)++if x.2=2\/x.2=3 then[x.1] else[]:=by
 unfold z9m;rw[Ai,hx,Aq,Ah];by_cases h:x.2=2\/x.2=3;·rw[if_pos h];rcases h with h|h<;>simp[h]
 ·rw[if_neg h];have h1: ¬x.2=2:=fun e=>h (Or.inl e);have h2: ¬x.2=3:=fun e=>h (Or.inr e);simp[h1,h2]
theorem z6r (ls:List (Int×Int)) (i:Nat) (x:Int×Int) (hx:ls[i]?=some x):q9u (ls.take (i+1))=if x.2=2\/x.2=3 then insA (q9u (ls.take i)) x.1 else q9u (ls.take i):=by unfold q9u;rw[x6i ls i x hx,Co];split<;>rfl
theorem x1a (xs:List Int) (a:Int):(insA xs a).length<=xs.length+1:=by
 unfold insA;split;·omega
 ·have:=congrArg List.length (CJ (p:=fun x=>decide (x<a)) (l:=xs));rw[AI] at this;simp only[List.length_append,List.length_cons];omega
theorem x8x (ls:List (Int×Int)) (i:Nat):(q9u (ls.take i)).length<=i:=by
 induction i with
 | zero=>simp[q9u,z9m]
 | succ i ih=>
  by_cases h:i<ls.length
  ·rw[z6r ls i ls[i] (AD h)];split;·have:=x1a (q9u (ls.take i)) ls[i].1;omega
   ·omega
  ·rw[AY (by omega)];rw[AY (by omega)] at ih;omega
theorem v4l (N g:Nat) (size:Int) (cs:List Int) (ls:List (Int×Int)) (vC vL:Value) (w:World) (h:q2l w N g size cs ls vC vL) (hl:ls.length<=500000) (h0:∀x∈ls,x.1≠0):
  Calls Tryz.prog 46 #[.pointer (some ⟨g,0,none⟩)] w fun e w'=>(∃v,e= .returned v/\w'.ownsRow w.heap.size 51 1 v (q9u ls).length ((q9u ls).map (Value.int .u64)))/\Below w.heap.size w w':=by
 have y2:w.cell? ⟨g,2,none⟩=some vL:=h.blk.cell 2;have h6:=h.blk.lt;obtain⟨n,hn⟩:∃n,n=ls.length:=⟨_,rfl⟩;obtain⟨W0,M⟩:∃W0,W0=w.alloc (.cells #[.slice none 0 0] 159):=⟨_,rfl⟩;obtain⟨s,hs⟩:∃s,s=w.heap.size:=⟨_,rfl⟩;have A0:Hid (q2x W0 w.heap.size s (.slice none 0 0) []):=by rw[M,hs];exact⟨Blk.new w _ _,World.ownsRow_nil _ _ _ _,AG _,by simp[Value.ownBlock]⟩
 have B0:Hid (Below w.heap.size w W0):=by rw[M];exact ba (Below.refl _ _) _
 rcases h.blkAt with⟨rfl,rfl⟩|⟨b,cap,rfl,h4⟩
 ·have y3:W0.cell? ⟨g,2,none⟩=some (.slice none 0 0):=(B0.out.cell (p:=⟨g,2,none⟩) h6).trans y2;have y4:W0.cell? ⟨s,0,none⟩=some (.slice none 0 0):=A0.out.blk.cell 0;clear h hl;go_enter Tryz.func46,Tryz.ntmps46;go_wp2;rw[<- M,<- hs];clear M hs;go_loopw [4] (fun vi wr=>vi= .int .i64 0/\W0=wr) (fun vi _=>0);case atStart=>exact⟨rfl,rfl⟩
  case round=>obtain⟨rfl,rfl⟩:=hrel;go_wp2;go_ret;exact⟨⟨_,rfl,A0.out.row⟩,B0.out⟩
 ·rw[<- hn] at y2;have HN:=hid hn;have h8:=hid (fun i x hi=>(⟨(h4 i x hi).1,(h4 i x hi).2,World.block_lt_of_cell? w _ (h4 i x hi).1⟩:_/\_/\b<w.heap.size));have n9:n<=500000:=by omega
  have HG:=hid h6;have H0:=hid h0;clear h4 h hl hn h6 h0;go_enter Tryz.func46,Tryz.ntmps46;go_wp2;rw[<- M,<- hs];have HS:=hid hs;clear M hs;go_loopw [4] (fun vi wr=> ∃(i:Nat) (v:Value),vi= .int .i64 (i:Int)/\i<=n/\Hid (q2x wr w.heap.size s v (q9u (ls.take i)))/\Hid (Below w.heap.size w wr)) (fun vi _=>n- (intOf vi).toNat);case atStart=>exact⟨0,_,rfl,Af _,A0,B0⟩
  case round=>
   obtain⟨i,v,rfl,hi,hA,hB⟩:=hrel;have i0:(0:Int)<=(i:Int):=by omega
   have y5:wr.cell? ⟨g,2,none⟩=some (.slice (some ⟨b,0,none⟩) n cap):=(hB.out.cell (p:=⟨g,2,none⟩) HG.out).trans y2;by_cases hlt:i<n
   ·obtain⟨x,hx⟩:∃x,ls[i]?=some x:=⟨_,AD (by rw[<- HN.out];exact hlt)⟩;obtain⟨z3,z4,hbl⟩:=h8.out i x hx;have y3:wr.cell? ⟨b,i*2,none⟩=some (.int .u64 x.1):=(hB.out.cell (p:=⟨b,i*2,none⟩) hbl).trans z3;have y4:wr.cell? ⟨b,i*2+1,none⟩=some (.int .i64 x.2):=(hB.out.cell (p:=⟨b,i*2+1,none⟩) hbl).trans z4;have i1:(i:Int)< (n:Int):=by omega
    have I:=z6r ls i x hx;have O:=H0.out x (AJ hx);obtain⟨xa,xi⟩:=x;simp only at I y3 y4 O;clear hx z3 z4 hbl;have put:xi=2\/xi=3->Hid (Calls Tryz.prog 72 #[.pointer (some ⟨s,0,none⟩),.int .u64 xa] wr fun e w'=>(∃r,e= .returned r)/\(∃v',q2x w' w.heap.size s v' (q9u (ls.take (i+1))))/\Below w.heap.size w w'):=fun h=>by refine(x5x w.heap.size s v _ xa wr hA.out hB.out.size (by have:=x8x ls i;omega) O).mono ?_;rintro e w' ⟨hr,⟨v',h1,_⟩,h2⟩;rw[I,if_pos h];exact⟨hr,⟨v',h1⟩,hB.out.trans (h2.below (by have:=HS.out;simp;omega) hB.out.size)⟩
    by_cases h2:xi=2
    ·have e2:(xi==2)=true:=by simp[h2]
     have hp:=put (Or.inl h2);clear h2 put I O;go_wp2_with fail;refine hp.out.mono ?_;rintro e w5 ⟨⟨r,rfl⟩,⟨v5,U⟩,S⟩;have Y:=hid U;have h5:=hid S;clear U S;go_wp2;go_roundw;case rel=>exact⟨i+1,v5,by go_num,hlt,Y,h5⟩
     case measure=>simp[intOf];omega
    ·have e2:(xi==2)=false:=by simp[h2]
     by_cases h3:xi=3
     ·have e3:(xi==3)=true:=by simp[h3]
      have hp:=put (Or.inr h3);clear h2 h3 put I O;go_wp2_with fail;refine hp.out.mono ?_;rintro e w5 ⟨⟨r,rfl⟩,⟨v5,U⟩,S⟩;have Y:=hid U;have h5:=hid S;clear U S;go_wp2;go_roundw;case rel=>exact⟨i+1,v5,by go_num,hlt,Y,h5⟩
      case measure=>simp[intOf];omega
     ·have e3:(xi==3)=false:=by simp[h3]
      rw[if_neg (by omega)] at I;have Y:Hid (q2x wr w.heap.size s v (q9u (ls.take (i+1)))):=by rw[I];exact hA
      clear h2 h3 put I O;go_wp2;go_roundw;case rel=>exact⟨i+1,v,by go_num,hlt,Y,hB⟩
      case measure=>simp[intOf];omega
   ·have i1: ¬(i:Int)< (n:Int):=by omega
    have y6:wr.cell? ⟨s,0,none⟩=some v:=hA.out.blk.cell 0;have h7:i=n:=by omega
    have L:=hA.out.row;rw[h7,HN.out,BH] at L;have HR:=hid L;clear hi hlt h7 L;go_wp2;go_ret;exact⟨⟨_,rfl,HR.out⟩,hB.out⟩
end Go.Proofs.YtibiekfjbibpbaaGreat
