import Derived.Test.YtibiekfjbibpbaaGreatDocM
set_option maxRecDepth 100000
set_option maxHeartbeats 1000000
set_option linter.unusedVariables false
set_option linter.unusedSimpArgs false
namespace Go.Proofs.YtibiekfjbibpbaaGreat
open Go.RowKit
section
attribute [local go_sem ↓ high] q0s q0f q0d q5l q7s q7o q6b q6p q0v
attribute [local go_sem] q1x q1p q1v q2t q4g Oper.semAt_some q0h
theorem q6o {w:World} {base:Nat} {e:TypeId} {size:Nat} {v:Value} {n:Nat} {xs:List Value} (h:w.ownsRow base e size v n xs) (h0:0<n):∃g cap,v= .slice (some ⟨g,0,none⟩) n cap/\base<=g/\n<=cap/\g<w.heap.size/\ ∀i x,xs[i]?=some x->w.cell? ⟨g,0+i,none⟩=some x:=by
 have hl:=h.1;rcases h.2 with⟨_,h2⟩|⟨g,cap,I,rfl,h2,h3,h4,h5,h6,h7⟩;·omega
 ·refine⟨g,cap,rfl,h2,h4,(AA.1 h3).1,fun i x hi=> ?_⟩;have hc:Blk w g e I:=h3;have L:i<n*size:=by have:=(AE.1 hi).1;omega
  rw[hc.cell,AQ,<- Ad];have:(I.toList.take (n*size))[i]?=some x:=by rw[h7];exact hi
  rwa[AV,if_pos L] at this
def z2k (W:World) (b:Nat):Nat:=match W.cell? ⟨b,1,none⟩ with|some (.slice _ n _)=>n|_=>0
structure ChI (bs:List Int) (lv a0:Int) (w:World) (a:Int) (a1 a2:Option Addr) (k c1 c2:Nat) (pre:List (Int×NodeA)) (prev:Option Int) (W:World):Prop where
 ch:q1e (q1y bs) lv a0 pre prev a
 kl:k=pre.length
 few:k<=bs.length/8
 au:0<=a/\a<=18446744073709551615
 pos:∀x∈pre,0<=x.1
 row:RowD W (w.heap.size+2) (.slice a1 k c1) (.slice a2 k c2) pre
 b6:Blk W w.heap.size 79 #[.slice none 0 0,.slice none 0 0]
 b8:Blk W (w.heap.size+1) 79 #[.slice a1 k c1,.slice a2 k c2]
 bel:Below w.heap.size w W
def z2i (bs:List Int) (lv a0:Int) (w:World) (e:Ending) (w':World):Prop:=
 Below w.heap.size w w'/\((∃row a1 a2 c1 c2,q0a (q1y bs) lv none a0 row/\e= .returned (.tuple #[.agg #[.slice a1 row.length c1,.slice a2 row.length c2],.bool true])/\RowD w' w.heap.size (.slice a1 row.length c1) (.slice a2 row.length c2) row/\row.length<=bs.length/8)\/
  ((∀row,¬q0a (q1y bs) lv none a0 row)/\ ∃a1 n1 c1 a2 n2 c2,e= .returned (.tuple #[.agg #[.slice a1 n1 c1,.slice a2 n2 c2],.bool false])))
theorem ChI.bel2 {bs:List Int} {lv a0:Int} {w:World} {a:Int} {a1 a2:Option Addr} {k c1 c2:Nat} {pre:List (Int×NodeA)} {I:Option Int} {W W':World} (h:ChI bs lv a0 w a a1 a2 k c1 c2 pre I W) (hb:Below W.heap.size W W'):ChI bs lv a0 w a a1 a2 k c1 c2 pre I W':=⟨h.ch,h.kl,h.few,h.au,h.pos,h.row.bel hb,h.b6.bel hb,h.b8.bel hb,bx h.bel hb⟩
theorem ChI.fin {bs:List Int} {lv a0:Int} {w:World} {a:Int} {a1 a2:Option Addr} {k c1 c2:Nat} {pre:List (Int×NodeA)} {I:Option Int} {W:World} (h:ChI bs lv a0 w a a1 a2 k c1 c2 pre I W):
  ldR Tryz.prog 79 (.pointer (some ⟨w.heap.size+1,0,none⟩)) W= .ok (.agg #[.slice a1 k c1,.slice a2 k c2]) W/\ ∃W9,stR Tryz.prog 79 (.pointer (some ⟨w.heap.size,0,none⟩)) (.agg #[.slice a1 k c1,.slice a2 k c2]) W= .ok () W9/\lvR Tryz.prog 79 ⟨w.heap.size,0,none⟩ W9= .ok (.agg #[.slice a1 k c1,.slice a2 k c2]) W9/\Below w.heap.size w W9/\RowD W9 w.heap.size (.slice a1 k c1) (.slice a2 k c2) pre:=by
 refine⟨q8b h.b8,?_⟩;obtain⟨W9,h1,h2,h3⟩:=x6a h.b6 rfl a1 a2 k c1 k c2;have h4:=h.row.only h3 (fun x hx=>by simp at hx;omega);exact⟨W9,h1,v5n h2,h.bel.trans (h3.below (fun x hx=>by simp at hx;omega) h.bel.size),⟨h4.at'.mono (by omega),h4.nd.mono (by omega)⟩⟩
theorem ChI.last {bs:List Int} {lv a0:Int} {w:World} {a:Int} {a1 a2:Option Addr} {k c1 c2:Nat} {pre:List (Int×NodeA)} {I:Option Int} {W:World} (h:ChI bs lv a0 w a a1 a2 k c1 c2 pre I W) (hk:0<k):
  ∃g lo,a2=some ⟨g,0,none⟩/\k<=c2/\I=some lo/\W.cell? ⟨g,(k-1)*21+1,none⟩=some (.int .u64 lo):=by
 obtain⟨x,hx⟩:∃x,pre[k-1]?=some x:=⟨_,AD (by have:=h.kl;omega)⟩;have hr:=h.row.nd;unfold rowN at hr;have L:=hr;rw[<- h.kl] at L;obtain⟨g,cap,e,O,S,U,M⟩:=q6o L hk;injection e with e1 _ e3;refine⟨g,x.2.low,e1,by omega,?_,?_⟩;·rw[h.ch.last,BW,<- h.kl,hx];rfl
 ·have:=M ((k-1)*21+1) (.int .u64 x.2.low) (by rw[z3x hx 1 (by omega)];rfl)
  rwa[AQ] at this
theorem ChI.nolow {bs:List Int} {lv a0:Int} {w:World} {a:Int} {a1 a2:Option Addr} {k c1 c2:Nat} {pre:List (Int×NodeA)} {I:Option Int} {W:World} (h:ChI bs lv a0 w a a1 a2 k c1 c2 pre I W) (hk: ¬0<k):I=none:=by have:pre=[]:=Am.1 (by have:=h.kl;omega);rw[h.ch.last,this];rfl
theorem v0t (p:Option Addr) (cap:Nat) (bs:List Int) (n:Nat) (hn:n=bs.length) (hl:n<=1000000) (hs:0<q0w bs.length) (a0 lv:Int) (ha:0<=a0/\a0<=18446744073709551615) (w:World) (h:q1m w p cap bs):
  Calls Tryz.prog 95 #[.slice p n cap,.int .u64 a0,.int .i64 lv] w (z2i bs lv a0 w):=by
 obtain⟨W1,he⟩:∃W1,W1=(w.alloc (.cells #[.slice none 0 0,.slice none 0 0] 79)).alloc (.cells #[.slice none 0 0,.slice none 0 0] 79):=⟨_,rfl⟩;have kd:Below w.heap.size w W1:=by rw[he];exact ba (ba (Below.refl _ _) _) _
 have k6:Blk W1 w.heap.size 79 #[.slice none 0 0,.slice none 0 0]:=by rw[he];exact(Blk.new _ _ _).alloc _
 have k8:Blk W1 (w.heap.size+1) 79 #[.slice none 0 0,.slice none 0 0]:=by rw[he];have:=Blk.new (w.alloc (.cells #[.slice none 0 0,.slice none 0 0] 79)) 79 #[.slice none 0 0,.slice none 0 0];rw[World.size_alloc] at this;exact this
 have kn:Hid (ChI bs lv a0 w a0 none none 0 0 0 [] none W1):=hid ⟨q1e.start _ _ _,rfl,Af _,ha,(fun x hx=>by cases hx),⟨World.ownsRow_nil _ _ _ _,World.ownsRow_nil _ _ _ _⟩,k6,k8,kd⟩;have HN:=hid hn;have H:=hid h;have HS:=hid hs;clear k6 k8 kd hn h hs ha;go_enter Tryz.func95,Tryz.ntmps95;go_wp2;rw[<- he];clear he;go_loopw [1] (fun av wr=> ∃(a:Int) (a1 a2:Option Addr) (k c1 c2:Nat) (pre:List (Int×NodeA)) (h1:Option Int),av= .int .u64 a/\Hid (ChI bs lv a0 w a a1 a2 k c1 c2 pre h1 wr)) (fun _ wr=>bs.length/8+1-z2k wr (w.heap.size+1));case atStart=>exact⟨a0,none,none,0,0,0,[],none,rfl,kn⟩
 case round=>
  obtain⟨a,a1,a2,k,c1,c2,pre,h1,rfl,hI⟩:=hrel;obtain⟨wA,rfl⟩:∃x,x=wr:=⟨_,rfl⟩;by_cases h0:a=0
  ·have e0:(a !=0)=false:=by simp[h0]
   obtain⟨hk,W9,k1,Y,M,L⟩:=hI.out.fin;have HF:Hid (z2i bs lv a0 w (.returned (.tuple #[.agg #[.slice a1 k c1,.slice a2 k c2],.bool true])) W9):=by have ek:=hI.out.kl;have ht:=hI.out.ch;rw[h0] at ht;have hf:=hI.out.few;subst ek;exact hid ⟨M,Or.inl ⟨pre,a1,a2,c1,c2,ht.done,rfl,L,hf⟩⟩
   clear h0 M L;go_wp2;refine bodyPost_ret (v:= .tuple #[.agg #[.slice a1 k c1,.slice a2 k c2],.bool true]) (q0y rfl _ _ _ _ _ rfl rfl Y) rfl ?_;exact HF.out
  ·have e0:(a !=0)=true:=by simpa using h0
   have ND:=hid (x5e p cap bs n HN.out hl a hI.out.au wA (q2d H.out hI.out.bel));cases hnd:q1y bs a with
   | none=>
    have er:q8r bs a= .tuple #[.agg (q0x q2w),.int .i64 6]:=by unfold q8r;rw[hnd]
    rw[er] at ND;have hi:Hid (∀row,¬q0a (q1y bs) lv none a0 row):=hid (hI.out.ch.no h0 fun m hm=>by rw[hnd] at hm;cases hm);clear hnd er h0;go_wp2_with fail;refine ND.out.mono ?_;rintro e w2 ⟨rfl,h3⟩;obtain⟨W7,hz,k9,h7⟩:=q3e w2 q2w;have kb:=(hI.out.bel2 h3).bel2 h7;obtain⟨hk,W9,k1,Y,M,L⟩:=kb.fin;have HF:Hid (z2i bs lv a0 w (.returned (.tuple #[.agg #[.slice a1 k c1,.slice a2 k c2],.bool false])) W9):=hid ⟨M,Or.inr ⟨hi.out,_,_,_,_,_,_,rfl⟩⟩;clear k9 h7 h3 kb M L;go_wp2;refine bodyPost_ret (v:= .tuple #[.agg #[.slice a1 k c1,.slice a2 k c2],.bool false]) (q0y rfl _ _ _ _ _ rfl rfl Y) rfl ?_;exact HF.out
   | some nd=>
    have k3:=hid (show z2k wA (w.heap.size+1)=k by unfold z2k;rw[hI.out.b8.cell 1];rfl);have er:q8r bs a= .tuple #[.agg (q0x nd),.int .i64 0]:=by unfold q8r;rw[hnd]
    rw[er] at ND;have hp:=hid hnd;have hr:=hid h0;clear hnd er h0;go_wp2_with fail;refine ND.out.mono ?_;rintro e w2 ⟨rfl,h3⟩;obtain⟨W7,hz,k9,h7⟩:=q3e w2 nd;have O:=hid ((hI.out.bel2 h3).bel2 h7);have kk:=hid (fun q (hq:(Value.slice a2 k c2).ownBlock=some q)=>show q<w2.heap.size by have:=(hI.out.row.nd.lt q hq).2;have:=h3.size;omega);have ho:=hid k9;have y0:W7.cell? ⟨w2.heap.size,0,none⟩=some (.int .i64 nd.lv):=ho.out.cell 0;have y1:W7.cell? ⟨w2.heap.size,1,none⟩=some (.int .u64 nd.low):=ho.out.cell 1;have y4:W7.cell? ⟨w2.heap.size,4,none⟩=some (.int .u64 nd.fi):=ho.out.cell 4;clear k9 h7 h3 hI;go_upto_region 4 with fail;go_cut [37] from 20 to 37 (fun kf wc=>kf= .bool (decide (nd.lv≠lv\/(lv=0/\nd.fi≠a)))/\Hid (wc=W7))
    case first=>
     by_cases q1:nd.lv=lv
     ·have b1:(nd.lv !=lv)=false:=by simp[q1]
      by_cases q2:lv=0
      ·have b2:(lv==0)=true:=by simp[q2]
       by_cases q3:nd.fi=a
       ·have b3:(nd.fi !=a)=false:=by simp[q3]
        have HD:=hid (show decide (nd.lv≠lv\/(lv=0/\nd.fi≠a))=false by simp[q1,q3]);clear q1 q2 q3;go_wp2_with fail;go_meet;exact⟨by rw[HD.out],rfl⟩
       ·have b3:(nd.fi !=a)=true:=by simpa using q3
        have HD:=hid (show decide (nd.lv≠lv\/(lv=0/\nd.fi≠a))=true by simp[q2,q3]);clear q1 q2 q3;go_wp2_with fail;go_meet;exact⟨by rw[HD.out],rfl⟩
      ·have b2:(lv==0)=false:=by simpa using q2
       have HD:=hid (show decide (nd.lv≠lv\/(lv=0/\nd.fi≠a))=false by simp[q1,q2]);clear q1 q2;go_wp2_with fail;go_meet;exact⟨by rw[HD.out],rfl⟩
     ·have b1:(nd.lv !=lv)=true:=by simpa using q1
      have HD:=hid (show decide (nd.lv≠lv\/(lv=0/\nd.fi≠a))=true by simp[q1]);clear q1;go_wp2_with fail;go_meet;exact⟨by rw[HD.out],rfl⟩
    case rest=>
     obtain⟨rfl,ke⟩:=hcut;obtain rfl:=ke.out;clear ke;by_cases q:nd.lv≠lv\/(lv=0/\nd.fi≠a)
     ·have bq:decide (nd.lv≠lv\/(lv=0/\nd.fi≠a))=true:=AT q;rw[bq]
      have hi:Hid (∀row,¬q0a (q1y bs) lv none a0 row):=hid (O.out.ch.no hr.out fun m hm ki kg=>by
       rw[hp.out] at hm;injection hm with hm;subst hm;rcases q with q|q;·exact absurd ki q
       ·exact absurd (kg q.1) q.2)
      obtain⟨hk,W9,k1,Y,M,L⟩:=O.out.fin;have HF:Hid (z2i bs lv a0 w (.returned (.tuple #[.agg #[.slice a1 k c1,.slice a2 k c2],.bool false])) W9):=hid ⟨M,Or.inr ⟨hi.out,_,_,_,_,_,_,rfl⟩⟩;clear M L q bq y0 y1 y4;go_wp2;refine bodyPost_ret (v:= .tuple #[.agg #[.slice a1 k c1,.slice a2 k c2],.bool false]) (q0y rfl _ _ _ _ _ rfl rfl Y) rfl ?_;exact HF.out
     ·have bq:decide (nd.lv≠lv\/(lv=0/\nd.fi≠a))=false:=AK q;rw[bq]
      have HQ:=hid (show nd.lv=lv/\(lv=0->nd.fi=a) by
       constructor
       ·by_cases h:nd.lv=lv;·exact h
        ·exact absurd (Or.inl h) q
       ·intro h;by_cases h2:nd.fi=a;·exact h2
        ·exact absurd (Or.inr ⟨h,h2⟩) q)
      clear q bq;have x1:wc.cell? ⟨w.heap.size+1,1,none⟩=some (.slice a2 k c2):=O.out.b8.cell 1;go_upto_region 7 with fail;go_cut [64] from 42 to 64 (fun s64 wd=> ∃bad:Bool,s64= .bool bad/\Hid ((bad=false↔x3p h1 nd.low)/\Below wc.heap.size wc wd))
      case first=>
       by_cases k0:0<k
       ·obtain⟨g,lo,e2,kq,hg,h9⟩:=O.out.last k0;subst e2;obtain⟨m,hm⟩:∃m,k-1=m:=⟨_,rfl⟩;rw[hm] at h9;have i0:(0:Int)< (k:Int):=by omega
        have ie:((k:Int)==0)=false:=by simp;omega
        have wm:IntKind.i64.wrap ((k:Int)-1)=(m:Int):=by rw[IntWalk.i64_in _ (by have:=O.out.few;have:=HN.out;constructor<;>omega)];omega
        have m0:(0:Int)<=(m:Int):=by omega
        have m1:(m:Int)< (k:Int):=by omega
        have j0:0<k:=k0;have j1:decide (0<k)=true:=AT j0;have j2:decide ((0:Int)< (k:Int))=true:=AT i0;have h6:=hid hg;clear hg k0 kq hm;by_cases q:nd.low<=lo;·go_quiet (fail);go_wp2;go_meet;exact⟨true,rfl,⟨fun h=>by simp at h,fun h=>by rw[h6.out] at h;have:lo<nd.low:=h;omega⟩,by(repeat(first|exact Below.refl _ _|(refine ba ?_ _)|(refine Below.drew ?_)|(refine below_drewN ?_ _)|(refine Below.alloc ?_ (by first|omega|simp<;>omega) _)|(refine Below.setCell ?_ (by first|omega|simp<;>omega) _)|(refine bx ?_ (by assumption))|(refine Below.trans ?_ (Below.mono (by assumption) (by first|omega|simp<;>omega)))))⟩
        ·go_quiet (fail);go_wp2;go_meet;exact⟨false,rfl,⟨fun _=>by rw[h6.out];show lo<nd.low;omega,fun _=>rfl⟩,by(repeat(first|exact Below.refl _ _|(refine ba ?_ _)|(refine Below.drew ?_)|(refine below_drewN ?_ _)|(refine Below.alloc ?_ (by first|omega|simp<;>omega) _)|(refine Below.setCell ?_ (by first|omega|simp<;>omega) _)|(refine bx ?_ (by assumption))|(refine Below.trans ?_ (Below.mono (by assumption) (by first|omega|simp<;>omega)))))⟩
       ·have hg:=O.out.nolow k0;have h6:=hid hg;obtain rfl:k=0:=by omega
        clear hg k0;by_cases q:nd.low=0
        ·have bq:(nd.low !=0)=false:=by simp[q]
         have hy:=hid q;clear q;go_quiet (fail);go_wp2;go_meet;exact⟨false,rfl,⟨fun _=>by rw[h6.out];exact hy.out,fun _=>rfl⟩,by(repeat(first|exact Below.refl _ _|(refine ba ?_ _)|(refine Below.drew ?_)|(refine below_drewN ?_ _)|(refine Below.alloc ?_ (by first|omega|simp<;>omega) _)|(refine Below.setCell ?_ (by first|omega|simp<;>omega) _)|(refine bx ?_ (by assumption))|(refine Below.trans ?_ (Below.mono (by assumption) (by first|omega|simp<;>omega)))))⟩
        ·have bq:(nd.low !=0)=true:=by simpa using q
         have hy:=hid q;clear q;go_quiet (fail);go_wp2;go_meet;exact⟨true,rfl,⟨fun h=>by simp at h,fun h=>by rw[h6.out] at h;exact absurd h hy.out⟩,by(repeat(first|exact Below.refl _ _|(refine ba ?_ _)|(refine Below.drew ?_)|(refine below_drewN ?_ _)|(refine Below.alloc ?_ (by first|omega|simp<;>omega) _)|(refine Below.setCell ?_ (by first|omega|simp<;>omega) _)|(refine bx ?_ (by assumption))|(refine Below.trans ?_ (Below.mono (by assumption) (by first|omega|simp<;>omega)))))⟩
      case rest=>
       obtain⟨bad,rfl,h4⟩:=hcut;have I:=hid (O.out.bel2 h4.out.2);have k5:=hid (ho.out.bel h4.out.2);cases bad
       ·have kp:=hid (h4.out.1.1 rfl);clear h4 y0 y1 y4 x1;obtain⟨b1,d1,b2,d2,wa,wb,r1,r2,r3,r4,r5,r6,r7,r8,r9,hj,hh⟩:=I.out.row.push I.out.b8 (by omega) (by have:=I.out.bel.size;have:=I.out.b8.lt;omega) (a,nd) (by have:=I.out.few;have:=HN.out;rw[<- I.out.kl];omega);rw[<- I.out.kl] at r1 r4 r5 r6 r9 hj hh
        have nm:w2.heap.size∉ (w.heap.size+1)::((Value.slice a1 k c1).ownBlock.toList++(Value.slice a2 k c2).ownBlock.toList):=by
         intro hm;have kc:wc.heap[w2.heap.size]?=some (.cells (q0x nd) 55 (0,0)):=k5.out;rcases AN.1 hm with e|hm;·have h8:wc.heap[w.heap.size+1]?=some (.cells _ 79 (0,0)):=I.out.b8;rw[<- e,kc] at h8;injection h8 with h8;injection h8 with _ h8 _;cases h8
         ·rcases An.1 hm with hm|hm;·obtain⟨_,kr,h5⟩:=q0l I.out.row.at' _ (by simpa[Option.mem_toList] using hm);rw[kc] at h5;injection h5 with h5;injection h5 with _ h5 _;cases h5
          ·have:=kk.out _ (by simpa[Option.mem_toList] using hm);omega
        have x0:wc.cell? ⟨w.heap.size+1,0,none⟩=some (.slice a1 k c1):=I.out.b8.cell 0
        have hk:=q2j (r5.blk k5.out (fun hm=>nm (by
         rcases AN.1 hm with e|e;·rw[e];exact Ae ..
         ·exact AW _ (List.mem_append_left _ e))))
        have kh:=v0f nd (wa.setCell ⟨w.heap.size+1,0,none⟩ (.slice b1 (k+1) d1));have ez:(wa.setCell ⟨w.heap.size+1,0,none⟩ (.slice b1 (k+1) d1)).heap.size=wa.heap.size:=by simp[World.setCell]
        rw[ez] at r6 kh;have y2:(wb.setCell ⟨w.heap.size+1,1,none⟩ (.slice b2 (k+1) d2)).cell? ⟨w2.heap.size,2,none⟩=some (.int .u64 nd.nx):=(hh.blk k5.out nm).cell 2;have k7:0<=nd.nx/\nd.nx<=18446744073709551615:=by rw[(q6c hp.out).2];exact q4b H.out.2.1 _ 2
        have k4:=I.out.ch.next hr.out hp.out HQ.out.1 HQ.out.2 kp.out
        have U:∀x∈pre++[(a,nd)],0<=x.1:=fun x hx=>by
         rcases An.1 hx with h|h;·exact I.out.pos x h
         ·rw[AF.1 h];exact I.out.au.1
        have S:=z0k k4 HS.out U
        have km:Hid (ChI bs lv a0 w nd.nx b1 b2 (k+1) d1 d2 (pre++[(a,nd)]) (some nd.low) (wb.setCell ⟨w.heap.size+1,1,none⟩ (.slice b2 (k+1) d2))):=by
         refine hid ⟨k4,by rw[AI,<- I.out.kl];rfl,by rw[AI,<- I.out.kl] at S;exact S,k7,U,r9,?_,hj,?_⟩
         ·exact hh.blk I.out.b6 (fun hm=>by
           rcases AN.1 hm with e|hm;·omega
           ·rcases An.1 hm with hm|hm;·have:=I.out.row.at'.lt _ (by simpa[Option.mem_toList] using hm);omega
            ·have:=I.out.row.nd.lt _ (by simpa[Option.mem_toList] using hm);omega)
         ·exact I.out.bel.trans (hh.below (fun x hx=>by
           rcases AN.1 hx with e|hm;·omega
           ·rcases An.1 hm with hm|hm;·have:=I.out.row.at'.lt _ (by simpa[Option.mem_toList] using hm);omega
            ·have:=I.out.row.nd.lt _ (by simpa[Option.mem_toList] using hm);omega) I.out.bel.size)
        have kj:Hid (bs.length/8+1-z2k (wb.setCell ⟨w.heap.size+1,1,none⟩ (.slice b2 (k+1) d2)) (w.heap.size+1)<bs.length/8+1-z2k wA (w.heap.size+1)):=by
         have e1:z2k (wb.setCell ⟨w.heap.size+1,1,none⟩ (.slice b2 (k+1) d2)) (w.heap.size+1)=k+1:=by unfold z2k;rw[hj.cell 1];rfl
         have e2:=k3.out;have:=I.out.few;refine hid ?_;rw[e1,e2];omega
        clear ez r5 r9 hj hh nm k7 k4 U S;go_wp2;go_roundw;case rel=>exact⟨nd.nx,b1,b2,k+1,d1,d2,pre++[(a,nd)],some nd.low,rfl,km⟩
        case measure=>exact kj.out
       ·have hi:Hid (∀row,¬q0a (q1y bs) lv none a0 row):=hid (O.out.ch.no hr.out fun m hm _ _ ko=>by
         rw[hp.out] at hm;injection hm with hm;subst hm;have:=h4.out.1.2 ko;simp at this)
        obtain⟨hk,W9,k1,Y,M,L⟩:=I.out.fin;have HF:Hid (z2i bs lv a0 w (.returned (.tuple #[.agg #[.slice a1 k c1,.slice a2 k c2],.bool false])) W9):=hid ⟨M,Or.inr ⟨hi.out,_,_,_,_,_,_,rfl⟩⟩;clear M L h4 y0 y1 y4 x1;go_wp2;refine bodyPost_ret (v:= .tuple #[.agg #[.slice a1 k c1,.slice a2 k c2],.bool false]) (q0y rfl _ _ _ _ _ rfl rfl Y) rfl ?_;exact HF.out
end
theorem RowD.addr {W:World} {N:Nat} {a1 a2:Option Addr} {k c1 c2:Nat} {row:List (Int×NodeA)} (h:RowD W N (.slice a1 k c1) (.slice a2 k c2) row) (hk:k=row.length) {i:Nat} {x:Int×NodeA} (hx:row[i]?=some x):
  ∃g,a1=some ⟨g,0,none⟩/\k<=c1/\W.cell? ⟨g,i,none⟩=some (.int .u64 x.1):=by
 have hi:=(AE.1 hx).1;have hr:=h.at';rw[<- hk] at hr;obtain⟨g,cap,e,L,M,O,I⟩:=q2e hr (by omega);injection e with e1 _ e3;refine⟨g,e1,by omega,?_⟩;have:=I i (.int .u64 x.1) (by rw[AM,hx];rfl)
 rwa[AQ] at this
theorem RowD.node {W:World} {N:Nat} {a1 a2:Option Addr} {k c1 c2:Nat} {row:List (Int×NodeA)} (h:RowD W N (.slice a1 k c1) (.slice a2 k c2) row) (hk:k=row.length) {i:Nat} {x:Int×NodeA} (hx:row[i]?=some x):
  ∃g,a2=some ⟨g,0,none⟩/\k<=c2/\ ∀j,j<21->W.cell? ⟨g,i*21+j,none⟩=(q0x x.2)[j]?:=by
 have hi:=(AE.1 hx).1;have hr:=h.nd;unfold rowN at hr;rw[<- hk] at hr;obtain⟨g,cap,e,L,M,O,I⟩:=q6o hr (by omega);injection e with e1 _ e3;refine⟨g,e1,by omega,fun j hj=> ?_⟩;obtain⟨v,hv⟩:∃v,(q0x x.2)[j]?=some v:=⟨_,AS (by rw[q5u];exact hj)⟩;have:=I (i*21+j) v (by rw[z3x hx j hj];exact hv);rw[AQ] at this;rw[this,hv]
theorem RowD.nodeL {W:World} {N:Nat} {a1 a2:Option Addr} {k c1 c2:Nat} {row:List (Int×NodeA)} (h:RowD W N (.slice a1 k c1) (.slice a2 k c2) row) (hk:k=row.length) {i:Nat} {x:Int×NodeA} (hx:row[i]?=some x):
  ∃g,a2=some ⟨g,0,none⟩/\k<=c2/\ ∀X,Below W.heap.size W X->(∀j,j<21->X.cell? ⟨g,i*21+j,none⟩=(q0x x.2)[j]?)/\ldR Tryz.prog 55 (.pointer (some ⟨g,i*21,none⟩)) X= .ok (.agg (q0x x.2)) X:=by
 have hi:=(AE.1 hx).1;have hr:=h.nd;unfold rowN at hr;rw[<- hk] at hr;rcases hr.2 with⟨_,h0⟩|⟨g,cap,I,e,e2,e3,e4,e5,e6,e7⟩;·omega
 ·injection e with e1 _ ec
  have L:∀j,j<21->I[i*21+j]?=(q0x x.2)[j]?:=fun j hj=>by
   have M:i*21+j<k*21:=by omega
   rw[<- Ad];have:(I.toList.take (k*21))[i*21+j]?=(z4w row)[i*21+j]?:=by rw[e7]
   rw[AV,if_pos M] at this;rw[this,z3x hx j hj]
  refine⟨g,e1,by omega,fun X hX=> ?_⟩;have hb:Blk X g 55 I:=(show Blk W g 55 I from e3).bel hX;refine⟨fun j hj=>(hb.cell (i*21+j)).trans (L j hj),?_⟩;refine hb.ldAt (P:=Tryz.prog) (i*21) (fun j v hj=> ?_) Tryz.underlying55 rfl (by kernel_rfl);have O:j<21:=by have:=(AA.1 hj).1;rw[q5u] at this;exact this
  rw[L j O];exact hj
def q8u (row:List (Int×NodeA)) (a:Int):Int:=match row.findIdx? (fun x=>decide (x.1=a)) with
 | some i=>(i:Int)
 | none=> -1
theorem v0v {row:List (Int×NodeA)} {a:Int} {i:Nat} {x:Int×NodeA} (hx:row[i]?=some x) (he:x.1=a) (hb:∀y∈row.take i,y.1≠a):q8u row a=i:=by
 unfold q8u;have:row.findIdx? (fun x=>decide (x.1=a))=some i:=by rw[Ch];obtain⟨hi,I⟩:=AE.1 hx;refine⟨hi,by rw[I];simpa using he,fun j hj=> ?_⟩;have:=hb row[j] (by rw[List.mem_take_iff_getElem];exact⟨j,by omega,rfl⟩);simpa using this
 rw[this]
theorem x2z {row:List (Int×NodeA)} {a:Int} (hb:∀y∈row,y.1≠a):q8u row a= -1:=by
 unfold q8u;have:row.findIdx? (fun x=>decide (x.1=a))=none:=by rw[DH];intro x hx;simpa using hb x hx
 rw[this]
theorem z9w (N k c1 c2:Nat) (a1 a2:Option Addr) (row:List (Int×NodeA)) (i:Nat) (w:World) (h:RowD w N (.slice a1 k c1) (.slice a2 k c2) row) (hk:k=row.length) (hl:k<=1000000) (hi:i<k):
  Calls Tryz.prog 73 #[.agg #[.slice a1 k c1,.slice a2 k c2],.int .i64 (i:Int)] w fun e w'=>e= .returned (.tuple #[.int .u64 (q2a row i),.bool (hasI row i)])/\Below w.heap.size w w':=by
 obtain⟨W1,L⟩:∃W1,W1=w.alloc (.cells #[.slice a1 k c1,.slice a2 k c2] 79):=⟨_,rfl⟩;have M:Below w.heap.size w W1:=by rw[L];exact ba (Below.refl _ _) _
 have k2:Blk W1 w.heap.size 79 #[.slice a1 k c1,.slice a2 k c2]:=by rw[L];exact Blk.new _ _ _
 have y1:W1.cell? ⟨w.heap.size,1,none⟩=some (.slice a2 k c2):=k2.cell 1;have O:=h.bel M;have wk:IntKind.i64.wrap ((i:Int)+1)=((i+1:Nat):Int):=IntWalk.i64_in _ (by constructor<;>omega);have HB:=hid M;have HW:=hid L;clear L;by_cases hlt:i+1<k
 ·obtain⟨x,hx⟩:∃x,row[i+1]?=some x:=⟨_,AD (by omega)⟩;obtain⟨g,rfl,S,I⟩:=O.node hk hx;have cl:W1.cell? ⟨g,(i+1)*21+1,none⟩=some (.int .u64 x.2.low):=I 1 (by omega);have HR:=hid (show q2a row i=x.2.low/\hasI row i=true by unfold q2a hasI;rw[hx];exact⟨rfl,by simp;omega⟩);obtain⟨j,hj⟩:∃j,j=i+1:=⟨_,rfl⟩;rw[<- hj] at wk cl hlt;have j0:(0:Int)<=(j:Int):=by omega
  have j1:(j:Int)< (k:Int):=by omega
  clear hj hx I O k2 M h hk hi;go_enter Tryz.func73,Tryz.ntmps73;go_upto_region 1 with fail;rw[<- HW.out];go_wp2;go_ret2;exact⟨by rw[HR.out.1,HR.out.2];rfl,HB.out⟩
 ·have HR:=hid (show q2a row i=0/\hasI row i=false by
   unfold q2a hasI;rw[Ax (by omega)];exact⟨rfl,by simp;omega⟩)
  obtain⟨j,hj⟩:∃j,j=i+1:=⟨_,rfl⟩;rw[<- hj] at wk hlt;have j1: ¬(j:Int)< (k:Int):=by omega
  clear hj O k2 M h hk hi hlt;go_enter Tryz.func73,Tryz.ntmps73;go_upto_region 1 with fail;rw[<- HW.out];go_wp2;go_ret2;exact⟨by rw[HR.out.1,HR.out.2];rfl,HB.out⟩
theorem x5m (N k c1 c2:Nat) (a1 a2:Option Addr) (row:List (Int×NodeA)) (a:Int) (w:World) (h:RowD w N (.slice a1 k c1) (.slice a2 k c2) row) (hk:k=row.length) (hl:k<=1000000):
  Calls Tryz.prog 97 #[.agg #[.slice a1 k c1,.slice a2 k c2],.int .u64 a] w fun e w'=>e= .returned (.int .i64 (q8u row a))/\Below w.heap.size w w':=by
 obtain⟨W1,I⟩:∃W1,W1=w.alloc (.cells #[.slice a1 k c1,.slice a2 k c2] 79):=⟨_,rfl⟩;have L:Below w.heap.size w W1:=by rw[I];exact ba (Below.refl _ _) _
 have k2:Blk W1 w.heap.size 79 #[.slice a1 k c1,.slice a2 k c2]:=by rw[I];exact Blk.new _ _ _
 have y0:W1.cell? ⟨w.heap.size,0,none⟩=some (.slice a1 k c1):=k2.cell 0;have HR:=hid (h.bel L);have HB:=hid L;have HK:=hid hk;clear L k2 h hk;go_enter Tryz.func97,Tryz.ntmps97;go_wp2;rw[<- I];clear I;go_loopw [5] (fun iv wr=> ∃i:Nat,i<=k/\iv= .int .i64 (i:Int)/\wr=W1/\Hid (∀y∈row.take i,y.1≠a)) (fun iv _=>k- (intOf iv).toNat);case atStart=>exact⟨0,Af _,rfl,rfl,(by simp:∀y∈row.take 0,y.1≠a)⟩
 case round=>
  obtain⟨i,hi,rfl,rfl,hm⟩:=hrel;obtain⟨wA,rfl⟩:∃x,x=wr:=⟨_,rfl⟩;by_cases hlt:i<k
  ·obtain⟨x,hx⟩:∃x,row[i]?=some x:=⟨_,AD (by have:=HK.out;omega)⟩;obtain⟨g,rfl,S,cl⟩:=HR.out.addr HK.out hx;have i0:(0:Int)<=(i:Int):=by omega
   have i1:(i:Int)< (k:Int):=by omega
   have HX:=hid hx;have M:=hid hlt;clear hx hi hlt;by_cases he:x.1=a
   ·have e1:(x.1==a)=true:=by simp[he]
    have HF:=hid (v0v HX.out he hm.out);clear he;go_wp2;go_ret;exact⟨by rw[HF.out];rfl,HB.out⟩
   ·have e1:(x.1==a)=false:=by simp[he]
    have O:Hid (∀y∈row.take (i+1),y.1≠a):=by
     refine hid fun y hy=> ?_;rw[Ai,HX.out,An] at hy;rcases hy with h1|h1;·exact hm.out y h1
     ·simp at h1;rw[h1];exact he
    clear he;go_wp2;go_roundw;case rel=>exact⟨i+1,M.out,by go_num,by first|rfl|trivial,O⟩
    case measure=>simp[intOf];have:=M.out;omega
  ·obtain rfl:i=k:=by omega
   have i1: ¬(i:Int)< (i:Int):=by omega
   have HF:Hid (q8u row a= -1):=hid (x2z (by have:=hm.out;rw[HK.out,BH] at this;exact this));clear hi hlt;go_wp2;go_ret;exact⟨by rw[HF.out];rfl,HB.out⟩
section
attribute [local go_sem ↓ high] q0s q0f q0d q5l q7s q7o q6b q6p q0v
attribute [local go_sem] q1x q1p q1v q2t q4g Oper.semAt_some q0h
theorem q1b.of_own2 {X:World} {N n sz:Nat} {e:TypeId} {v:Value} {xs:List Value} (h:X.ownsRow N e sz v n xs) (hs:0<sz):q1b X v n xs:=by
 have hl:=h.1;rcases Bt n with h0|h0
 ·rcases h.2 with⟨rfl,_⟩|⟨g,cap,S,rfl,h2,h3,h4,h5,h6,h7⟩;·exact Or.inl ⟨rfl,h0,by rw[h0] at hl;exact Am.1 (by omega)⟩
  ·exact Or.inr ⟨g,0,cap,rfl,fun j u hj=>by have:=(AE.1 hj).1;rw[hl,h0] at this;omega⟩
 ·obtain⟨g,cap,e1,L,M,O,I⟩:=q6o h h0;exact Or.inr ⟨g,0,cap,e1,fun j u hj=>I j u hj⟩
theorem x1f {X:World} {N k:Nat} {x:Int×Int} {v:Value} {l:List (Int×Int)} (hk:Blk X k 166 #[.int .u64 x.1,.int .u64 x.2]) (hv:X.ownsRow N 166 2 v l.length (l.flatMap entC)) (hm:l.length<=1000):
  ∃a c w9,q0n Tryz.prog #[162,162] 162 #[.slice (some ⟨k,0,none⟩) 1 1,v] X= .ok (.slice a (1+l.length) c) w9/\q1l w9 (.slice a (1+l.length) c) (x::l)/\Only [k] X w9:=by
 obtain⟨i0,S,L,O,M⟩:=info_parts x5d;have I:X.ownsRow k 166 2 (.slice (some ⟨k,0,none⟩) 1 1) 1 [.int .u64 x.1,.int .u64 x.2]:=⟨by simp,Or.inr ⟨k,1,_,rfl,AG _,hk,AG _,by unfold maxLen;omega,rfl,rfl⟩⟩;have hN:q1b X v l.length (l.flatMap entC):=q1b.of_own2 hv (by omega);obtain⟨v',w',h⟩:=q2b (P:=Tryz.prog) X k 162 162 166 i0 (.agg #[.int .u64 0,.int .u64 0]) 2 16 Tryz.underlying162 S L O M rfl (by decide) (.slice (some ⟨k,0,none⟩) 1 1) 1 _ I v l.length _ hN (by rw[q7a];omega) (fun u hu=>by obtain⟨y,_,hy⟩:=Bq.1 hu;unfold entC at hy;simp at hy;rcases hy with rfl|rfl<;>rfl) (by unfold maxLen;omega) (by omega) (Bv hk.lt);have h2:=h.own;obtain⟨a,c,rfl⟩:=q0q h2;refine⟨a,c,w',h.run,?_,Only.of_grown (f:=[k]) h.grown (fun y hy=>by simp[Value.ownBlock] at hy;simp[hy])⟩;have e:[Value.int .u64 x.1,.int .u64 x.2]++l.flatMap entC=(x::l).flatMap entC:=by rw[Ap];rfl
 rw[e,show 1+l.length=(x::l).length by rw[BE];omega] at h2;have h3:=q1l.of_own h2;rw[show 1+l.length=(x::l).length by rw[BE];omega];exact h3
theorem x9f {row:List (Int×NodeA)} {a:Int} (h:0<=q8u row a):∃(i:Nat) (x:Int×NodeA),q8u row a=(i:Int)/\row[i]?=some x/\x.1=a:=by
 unfold q8u at h ⊢;cases hf:row.findIdx? (fun x=>decide (x.1=a)) with
 | none=>rw[hf] at h;simp at h
 | some i=>obtain⟨hi,h1,_⟩:=Ch.1 hf;exact⟨i,row[i],rfl,AD hi,by simpa using h1⟩
theorem x6k {row:List (Int×NodeA)} {a:Int} (h: ¬0<=q8u row a):∀y∈row,y.1≠a:=by
 unfold q8u at h;cases hf:row.findIdx? (fun x=>decide (x.1=a)) with
 | none=>rw[DH] at hf;intro y hy;simpa using hf y hy
 | some i=>rw[hf] at h;simp at h
theorem v9t {down:List (Int×NodeA)} (L:(down.map (·.1)).Nodup) {i:Nat} {x:Int×NodeA} (hx:down[i]?=some x) {e:Int×Int} (he:x.1=e.2):hitI down e↔x.2.low=e.1:=by
 constructor
 ·rintro⟨y,hy,h1,h2⟩;obtain⟨j,hj⟩:=Bu hy
  have I:i=j:=by
   have h3:=(AE.1 hx);have h4:=(AE.1 hj);have hp:=CX.1 L;rcases Nat.lt_trichotomy i j with q|q|q;·exact absurd (by rw[Cu,Cu,h3.2,h4.2,he,h1]) (hp i j (by rw[AO];exact h3.1) (by rw[AO];exact h4.1) q)
   ·exact q
   ·exact absurd (by rw[Cu,Cu,h3.2,h4.2,he,h1]) (hp j i (by rw[AO];exact h4.1) (by rw[AO];exact h3.1) q)
  subst I;rw[hx] at hj;injection hj with hj;rw[hj];exact h2
 ·intro h;exact⟨x,AJ hx,he,h⟩
structure LdI (w:World) (N M:Nat) (ua1 ua2 da1 da2:Option Addr) (un dn uc1 uc2 dc1 dc2:Nat) (up down:List (Int×NodeA)) (W:World):Prop where
 b2:Blk W w.heap.size 79 #[.slice ua1 un uc1,.slice ua2 un uc2]
 b3:Blk W (w.heap.size+1) 79 #[.slice da1 dn dc1,.slice da2 dn dc2]
 up:RowD W N (.slice ua1 un uc1) (.slice ua2 un uc2) up
 dn:RowD W M (.slice da1 dn dc1) (.slice da2 dn dc2) down
 bel:Below w.heap.size w W
theorem LdI.bel2 {w:World} {N M:Nat} {Y L I h1:Option Addr} {un dn O U S h2:Nat} {up down:List (Int×NodeA)} {W W':World} (h:LdI w N M Y L I h1 un dn O U S h2 up down W) (hb:Below W.heap.size W W'):LdI w N M Y L I h1 un dn O U S h2 up down W':=⟨h.b2.bel hb,h.b3.bel hb,h.up.bel hb,h.dn.bel hb,bx h.bel hb⟩
def x7o (up down:List (Int×NodeA)) (w:World) (e:Ending) (w':World):Prop:=Below w.heap.size w w'/\ ∃b,e= .returned (.bool b)/\(b=true↔q4c up down)
def v3l (up down:List (Int×NodeA)) (i:Nat):Prop:= ∀i',i'<i-> ∀e∈z6w up i',hitI down e
theorem v0i (N M un dn h7 S U O:Nat) (h5 h3 Y L:Option Addr) (up down:List (Int×NodeA)) (w:World) (hu:RowD w N (.slice h5 un h7) (.slice h3 un S) up) (hd:RowD w M (.slice Y dn U) (.slice L dn O) down) (kb:un=up.length) (k9:dn=down.length) (z3:un<=1000000) (km:dn<=1000000) (kc:(down.map (·.1)).Nodup):
  Calls Tryz.prog 98 #[.agg #[.slice h5 un h7,.slice h3 un S],.agg #[.slice Y dn U,.slice L dn O]] w (x7o up down w):=by
 obtain⟨W1,ha⟩:∃W1,W1=(w.alloc (.cells #[.slice h5 un h7,.slice h3 un S] 79)).alloc (.cells #[.slice Y dn U,.slice L dn O] 79):=⟨_,rfl⟩;have h4:Below w.heap.size w W1:=by rw[ha];exact ba (ba (Below.refl _ _) _) _
 have kr:Hid (LdI w N M h5 h3 Y L un dn h7 S U O up down W1):=by
  refine hid ⟨?_,?_,hu.bel h4,hd.bel h4,h4⟩;·rw[ha];exact(Blk.new _ _ _).alloc _
  ·rw[ha];have:=Blk.new (w.alloc (.cells #[.slice h5 un h7,.slice h3 un S] 79)) 79 #[.slice Y dn U,.slice L dn O]
   rwa[World.size_alloc] at this
 have hk:=hid kb;have hz:=hid k9;have kq:=hid kc;clear h4 hu hd kb k9 kc;go_enter Tryz.func98,Tryz.ntmps98;go_wp2;rw[<- ha];clear ha;go_loopw [5] (fun iv wr=> ∃i:Nat,i<=un/\iv= .int .i64 (i:Int)/\Hid (LdI w N M h5 h3 Y L un dn h7 S U O up down wr/\v3l up down i)) (fun iv _=>un- (intOf iv).toNat);case atStart=>exact⟨0,Af _,rfl,⟨kr.out,fun i h=>absurd h (BP _)⟩⟩
 case round=>
  obtain⟨i,hi,rfl,hI⟩:=hrel;obtain⟨wA,rfl⟩:∃x,x=wr:=⟨_,rfl⟩;have y2:wA.cell? ⟨w.heap.size,1,none⟩=some (.slice h3 un S):=hI.out.1.b2.cell 1;by_cases hlt:i<un
  ·obtain⟨x,hx⟩:∃x,up[i]?=some x:=⟨_,AD (by have:=hk.out;omega)⟩;have i1:(i:Int)< (un:Int):=by omega
   have i0:(0:Int)<=(i:Int):=by omega
   have kz:=q8b hI.out.1.b2;have HG:=hid (z9w N un h7 S h5 h3 up i wA hI.out.1.up hk.out z3 hlt);have HX:=hid hx;have k7:=hid hlt;clear hx hlt hi;go_wp2_with fail;refine HG.out.mono ?_;rintro e w2 ⟨rfl,ke⟩;obtain⟨hh,k5⟩:∃hh,hh=q2a up i:=⟨_,rfl⟩;obtain⟨hs,hr⟩:∃hs,hs=hasI up i:=⟨_,rfl⟩;rw[<- k5,<- hr];have k3:=hid (hI.out.1.bel2 ke);have kd:=hid (show z6w up i=(x.2.low,x.2.fi)::q1n x.2 hh hs by rw[q9x HX.out,k5,hr]);clear y2 kz ke k5 hr;go_upto_region 5 with fail;go_cut [8] from 24 to 46 (fun s8 wc=> ∃(a:Option Addr) (c:Nat),s8= .slice a (1+(q1n x.2 hh hs).length) c/\Hid (q1l wc (.slice a (1+(q1n x.2 hh hs).length) c) ((x.2.low,x.2.fi)::q1n x.2 hh hs)/\Below w2.heap.size w2 wc))
   case first=>
    obtain⟨g,e2,z5,I⟩:=k3.out.up.nodeL hk.out HX.out;subst e2;have KS:=hid (fun X (hb:Below w2.heap.size w2 X)=>show(X.cell? ⟨w.heap.size,1,none⟩=some (.slice (some ⟨g,0,none⟩) un S)/\X.cell? ⟨g,i*21+1,none⟩=some (.int .u64 x.2.low)/\X.cell? ⟨g,i*21+4,none⟩=some (.int .u64 x.2.fi)/\ldR Tryz.prog 55 (.pointer (some ⟨g,i*21,none⟩)) X= .ok (.agg (q0x x.2)) X)/\Below w2.heap.size w2 X from⟨⟨(k3.out.bel2 hb).b2.cell 1,(I X hb).1 1 (by omega),(I X hb).1 4 (by omega),(I X hb).2⟩,hb⟩);have kt:=hid (fun X=>z4j x.2 hh hs X);have B0:Below w2.heap.size w2 w2.drew:=by(repeat(first|exact Below.refl _ _|(refine ba ?_ _)|(refine Below.drew ?_)|(refine below_drewN ?_ _)|(refine Below.alloc ?_ (by first|omega|simp<;>omega) _)|(refine Below.setCell ?_ (by first|omega|simp<;>omega) _)|(refine bx ?_ (by assumption))|(refine Below.trans ?_ (Below.mono (by assumption) (by first|omega|simp<;>omega)))))
    have B1:Below w2.heap.size w2 (w2.alloc (.cells #[.int .u64 x.2.low,.int .u64 x.2.fi] 166)).drew:=by(repeat(first|exact Below.refl _ _|(refine ba ?_ _)|(refine Below.drew ?_)|(refine below_drewN ?_ _)|(refine Below.alloc ?_ (by first|omega|simp<;>omega) _)|(refine Below.setCell ?_ (by first|omega|simp<;>omega) _)|(refine bx ?_ (by assumption))|(refine Below.trans ?_ (Below.mono (by assumption) (by first|omega|simp<;>omega)))))
    have ki:=hid (show(q1n x.2 hh hs).length<=1000 by have h1:=Ao (actE hh hs) (q0r x.2);have:=q3j x.2;unfold q1n;omega);clear z5 I
    go_region_held3 (fun X=>(X.cell? ⟨w.heap.size,1,none⟩=some (.slice (some ⟨g,0,none⟩) un S)/\X.cell? ⟨g,i*21+1,none⟩=some (.int .u64 x.2.low)/\X.cell? ⟨g,i*21+4,none⟩=some (.int .u64 x.2.fi)/\ldR Tryz.prog 55 (.pointer (some ⟨g,i*21,none⟩)) X= .ok (.agg (q0x x.2)) X)/\Below w2.heap.size w2 X) (first|(with_reducible exact KS.out _ B0)|(with_reducible exact KS.out _ B1)|(with_reducible exact KS.out _ B2)|(with_reducible exact KS.out _ (B3 _))|(with_reducible exact KS.out _ (B4 _))|(with_reducible exact KS.out _ B5)|(trace_state;fail))
     (first
     | (go_at_call 74;refine(kt.out _).mono ?_;rintro e v1 ⟨v,rfl,h6,h4⟩;obtain⟨va,vc,rfl⟩:=q0q h6;have B2:Below w2.heap.size w2 v1:=(by first|(with_reducible exact bx B1 h4)|(with_reducible exact bx B0 h4));have B3:=(fun o=>ba B2 o:∀o,Below w2.heap.size w2 (v1.alloc o));have B4:=(fun o=>Below.drew (ba B2 o):∀o,Below w2.heap.size w2 (v1.alloc o).drew);(try(have z4:=hid (x1f (x:=(x.2.low,x.2.fi)) (((Blk.new w2 166 #[.int .u64 x.2.low,.int .u64 x.2.fi]).drew).bel h4) h6 ki.out)));have z2:=hid (x1f (x:=(x.2.low,x.2.fi)) (Blk.new v1 166 #[.int .u64 x.2.low,.int .u64 x.2.fi]) (((Only.refl [] v1).alloc _).own h6 (by simp)) ki.out);clear h6)
     | (obtain⟨a9,c9,w9,h8,hp,ho⟩:=z4.out;have B5:Below w2.heap.size w2 w9:=B2.trans (ho.below (fun x hx=>by simp at hx;omega) B2.size);have kh:=hid hp;clear hp;refine q1k rfl (.tmp 37) (.tmp 45) 162 162 rfl _ _ (by simp[Act.eval,Act.put]) (by simp[Act.eval,Act.put]) h8 ?_)
     | (obtain⟨a9,c9,w9,h8,hp,ho⟩:=z2.out;have B5:Below w2.heap.size w2 w9:=(B3 _).trans (ho.below (fun x hx=>by have:=B2.size;simp at hx;omega) (B3 _).size);have kh:=hid hp;clear hp;refine q1k rfl (.tmp 37) (.tmp 45) 162 162 rfl _ _ (by simp[Act.eval,Act.put]) (by simp[Act.eval,Act.put]) h8 ?_)
     | (trace_state;fail))
    all_goals
     try go_simp
     try simp only[Act.put,List.setIfInBounds_toArray,List.set_cons_zero,List.set_cons_succ]
     go_wp2_with fail;go_meet;exact⟨a9,c9,rfl,kh.out,B5⟩
   case rest=>
    obtain⟨la,lc,rfl,hq⟩:=hcut;obtain⟨m,hm⟩:∃m,m=1+(q1n x.2 hh hs).length:=⟨_,rfl⟩;obtain⟨l,hl⟩:∃l,l=(x.2.low,x.2.fi)::q1n x.2 hh hs:=⟨_,rfl⟩;have HL:=hid (show z6w up i=l/\m=l.length/\m<=9 by refine⟨kd.out.trans hl.symm,by rw[hm,hl,BE];omega,?_⟩;have h1:=Ao (actE hh hs) (q0r x.2);have:=q3j x.2;rw[hm];unfold q1n;omega);rw[<- hl,<- hm] at hq;rw[<- hm];have h9:=hid (show LdI w N M h5 h3 Y L un dn h7 S U O up down wc/\q1l wc (.slice la m lc) l from⟨k3.out.bel2 hq.out.2,hq.out.1⟩);have k0:=k7;clear hm hl hq kd;go_wp2;go_loopw [9] (fun jv W=> ∃j:Nat,j<=m/\jv= .int .i64 (j:Int)/\Hid (Below wc.heap.size wc W)/\Hid (∀e∈l.take j,hitI down e)) (fun jv _=>m- (intOf jv).toNat);case atStart=>exact⟨0,Af _,rfl,hid (Below.refl _ _),hid (by simp)⟩
    case round=>
     obtain⟨j,hj,rfl,hJ,hH⟩:=hrel;obtain⟨wB,rfl⟩:∃x,x=wr:=⟨_,rfl⟩;by_cases hjm:j<m
     ·obtain⟨e,he⟩:∃e,l[j]?=some e:=⟨_,AD (by have:=HL.out;omega)⟩;have j1:(j:Int)< (m:Int):=by omega
      have j0:(0:Int)<=(j:Int):=by omega
      obtain⟨b,off,e2,hbl,hc⟩:∃b off,la=some ⟨b,off,none⟩/\b<wc.heap.size/\ ∀i x,l[i]?=some x->wc.cell? ⟨b,off+i*2,none⟩=some (.int .u64 x.1)/\wc.cell? ⟨b,off+i*2+1,none⟩=some (.int .u64 x.2):=by
       obtain⟨ao,cap,h1,h2⟩:=h9.out.2;injection h1 with h1;subst h1;rcases h2 with h2|h2;·rw[h2] at he;simp at he
       ·exact h2
      subst e2;have KS:=hid (fun X (hb:Below wB.heap.size wB X)=>show(ldR Tryz.prog 79 (.pointer (some ⟨w.heap.size+1,0,none⟩)) X= .ok (.agg #[.slice Y dn U,.slice L dn O]) X/\X.cell? ⟨b,off+j*2,none⟩=some (.int .u64 e.1)/\X.cell? ⟨b,off+j*2+1,none⟩=some (.int .u64 e.2)/\X.cell? ⟨w.heap.size+1,1,none⟩=some (.slice L dn O))/\Below wB.heap.size wB X from⟨⟨q8b (h9.out.1.bel2 (bx hJ.out hb)).b3,((bx hJ.out hb).cell (p:=⟨b,off+j*2,none⟩) hbl).trans (hc j e he).1,((bx hJ.out hb).cell (p:=⟨b,off+j*2+1,none⟩) hbl).trans (hc j e he).2,(h9.out.1.bel2 (bx hJ.out hb)).b3.cell 1⟩,hb⟩);have kp:=hid (fun X (hb:Below wB.heap.size wB X)=>x5m M dn U O Y L down e.2 X (h9.out.1.bel2 (bx hJ.out hb)).dn hz.out km);have B0:Below wB.heap.size wB wB.drew:=by(repeat(first|exact Below.refl _ _|(refine ba ?_ _)|(refine Below.drew ?_)|(refine below_drewN ?_ _)|(refine Below.alloc ?_ (by first|omega|simp<;>omega) _)|(refine Below.setCell ?_ (by first|omega|simp<;>omega) _)|(refine bx ?_ (by assumption))|(refine Below.trans ?_ (Below.mono (by assumption) (by first|omega|simp<;>omega)))))
      have HE:=hid he;have k1:=hid hjm;clear hc hbl he hjm hj;go_upto_region 9 with fail;go_cut [10] from 53 to 59 (fun ko W=>ko= .int .i64 (q8u down e.2)/\Hid (Below wB.heap.size wB W))
      case first=>
       go_region_held3 (fun X=>(ldR Tryz.prog 79 (.pointer (some ⟨w.heap.size+1,0,none⟩)) X= .ok (.agg #[.slice Y dn U,.slice L dn O]) X/\X.cell? ⟨b,off+j*2,none⟩=some (.int .u64 e.1)/\X.cell? ⟨b,off+j*2+1,none⟩=some (.int .u64 e.2)/\X.cell? ⟨w.heap.size+1,1,none⟩=some (.slice L dn O))/\Below wB.heap.size wB X) (first|(with_reducible exact KS.out _ B0)|(with_reducible exact KS.out _ B1))
        (first
        | (go_at_call 97;refine(kp.out _ B0).mono ?_;rintro e9 v1 ⟨rfl,h4⟩;have B1:Below wB.heap.size wB v1:=bx B0 h4))
       all_goals
        try go_simp
        try simp only[Act.put,List.setIfInBounds_toArray,List.set_cons_zero,List.set_cons_succ]
        go_wp2_with fail;go_meet;exact⟨rfl,B1⟩
      case rest=>
       obtain⟨rfl,k8⟩:=hcut;have kg:=hid (h9.out.1.bel2 (bx hJ.out k8.out));have kx:=hid (bx hJ.out k8.out);obtain⟨⟨k4,z6,z7,z9⟩,_⟩:=KS.out _ k8.out;have hg: ¬hitI down e->Hid (∀W,Below wc.heap.size wc W->x7o up down w (.returned (.bool false)) W):=fun hn=>hid fun W hW=>⟨bx kg.out.bel hW,false,rfl,(fun h=>by cases h),fun h=>absurd (h i (by have:=k0.out;have:=hk.out;omega) e (by rw[HL.out.1];exact AJ HE.out)) hn⟩;have z8:j<9:=by have:=k1.out;have:=HL.out.2.2;omega
       by_cases q0:0<=q8u down e.2
       ·obtain⟨t,y,ht,hy,kj⟩:=x9f q0;rw[ht];have hit:=v9t kq.out hy kj;have kn:t<dn:=by have:=(AE.1 hy).1;have:=hz.out;omega
        obtain⟨gd,e3,kk,I⟩:=kg.out.dn.node hz.out hy;subst e3;have cy:wc.cell? ⟨gd,t*21+1,none⟩=some (.int .u64 y.2.low):=I 1 (by omega);have t0:(0:Int)<=(t:Int):=by omega
        have t1:(t:Int)< (dn:Int):=by omega
        have t2:decide ((t:Int)<0)=false:=AK (by omega);have t3: ¬(t:Int)<0:=by omega
        clear I hy kj ht q0 kn kk k4;go_upto_region 10 with fail;by_cases q1:y.2.low=e.1
        ·have ky:=hid (hit.2 q1);have b1:(y.2.low !=e.1)=false:=by simp[q1]
         have z1:Hid (∀e'∈l.take (j+1),hitI down e'):=by
          refine hid fun e' kf=> ?_;rw[Ai,HE.out,An] at kf;rcases kf with h1|h1;·exact hH.out e' h1
          ·simp at h1;rw[h1];exact ky.out
         clear q1 hit hg;go_quiet (fail);go_wp2;go_roundw;case rel=>exact⟨j+1,k1.out,by go_num,hid (by refine bx kx.out ?_;(repeat(first|exact Below.refl _ _|(refine ba ?_ _)|(refine Below.drew ?_)|(refine below_drewN ?_ _)|(refine Below.alloc ?_ (by first|omega|simp<;>omega) _)|(refine Below.setCell ?_ (by first|omega|simp<;>omega) _)|(refine bx ?_ (by assumption))|(refine Below.trans ?_ (Below.mono (by assumption) (by first|omega|simp<;>omega)))))),z1⟩
         case measure=>simp[intOf];have:=k1.out;omega
        ·have b1:(y.2.low !=e.1)=true:=by simpa using q1
         have HF:=hg (fun h=>q1 (hit.1 h));clear q1 hit hg;go_quiet (fail);go_wp2;go_ret;exact HF.out _ (by(repeat(first|exact Below.refl _ _|(refine ba ?_ _)|(refine Below.drew ?_)|(refine below_drewN ?_ _)|(refine Below.alloc ?_ (by first|omega|simp<;>omega) _)|(refine Below.setCell ?_ (by first|omega|simp<;>omega) _)|(refine bx ?_ (by assumption))|(refine Below.trans ?_ (Below.mono (by assumption) (by first|omega|simp<;>omega))))))
       ·have HF:=hg (by
         rintro⟨y,hy,h1,_⟩;exact x6k q0 y hy h1)
        obtain⟨f,hf⟩:∃f,f=q8u down e.2:=⟨_,rfl⟩;rw[<- hf] at q0 ⊢;have q1:f<0:=by omega
        have q2:decide (f<0)=true:=AT q1;clear hf q0 hg;go_upto_region 10 with fail;go_quiet (fail);go_wp2;go_ret;exact HF.out _ (by(repeat(first|exact Below.refl _ _|(refine ba ?_ _)|(refine Below.drew ?_)|(refine below_drewN ?_ _)|(refine Below.alloc ?_ (by first|omega|simp<;>omega) _)|(refine Below.setCell ?_ (by first|omega|simp<;>omega) _)|(refine bx ?_ (by assumption))|(refine Below.trans ?_ (Below.mono (by assumption) (by first|omega|simp<;>omega))))))
     ·obtain rfl:j=m:=by omega
      have j1: ¬(j:Int)< (j:Int):=by omega
      have HN:Hid (LdI w N M h5 h3 Y L un dn h7 S U O up down wB/\v3l up down (i+1)):=by
       refine hid ⟨h9.out.1.bel2 hJ.out,fun i' z0 e he=> ?_⟩;by_cases q:i'<i;·exact hI.out.2 i' q e he
       ·obtain rfl:i'=i:=by omega
        rw[HL.out.1] at he;refine hH.out e ?_;rw[HL.out.2.1,BH];exact he
      clear hj hjm;go_wp2;go_roundw;case rel=>exact⟨i+1,k7.out,by go_num,HN⟩
      case measure=>simp[intOf];have:=k7.out;omega
  ·obtain rfl:i=un:=by omega
   have i1: ¬(i:Int)< (i:Int):=by omega
   clear hlt hi;go_wp2;go_ret;exact⟨hI.out.1.bel,true,rfl,fun _ i' z0 e he=>hI.out.2 i' (by have:=hk.out;omega) e he,fun _=>rfl⟩
end
theorem v6q (p:Option Addr) (n cap:Nat) (hs: ¬0<q0w (n:Int)) (w:World):
  Calls Tryz.prog 39 #[.slice p n cap] w fun e w'=>e= .returned (.tuple #[.pointer none,.int .i64 2])/\w=w':=by
 have hS:=q8q (n:Int) w
 have h0:q0w (n:Int)=0:=by
  have:0<=q0w (n:Int):=by unfold q0w;split<;>omega
  omega
 rw[h0] at hS;have HS:=hid hS;clear hS h0 hs;go_enter Tryz.func39,Tryz.ntmps39;go_wp2_with fail;refine HS.out.mono ?_;rintro e w1 ⟨rfl,rfl⟩;go_wp2;go_ret2;exact⟨rfl,rfl⟩
structure q4x (W:World) (N:Nat) (v:Value) (rows:List (List (Int×NodeA))):Prop where
 ex:∃vs:List (Value×Value),vs.length=rows.length/\W.ownsRow N 79 2 v rows.length (vs.flatMap fun p=>[p.1,p.2])/\
  ∀(i:Nat) (row:List (Int×NodeA)),rows[i]?=some row-> ∃a1 c1 a2 c2,vs[i]?=some (.slice a1 row.length c1,.slice a2 row.length c2)/\RowD W N (.slice a1 row.length c1) (.slice a2 row.length c2) row
theorem q4x.nil (W:World) (N:Nat):q4x W N (.slice none 0 0) []:=⟨[],rfl,World.ownsRow_nil _ _ _ _,fun i row h=>by simp at h⟩
theorem q4x.bel {W W':World} {N:Nat} {v:Value} {rows:List (List (Int×NodeA))} (h:q4x W N v rows) (hb:Below W.heap.size W W'):q4x W' N v rows:=by obtain⟨vs,h1,h2,h3⟩:=h.ex;refine⟨vs,h1,(Only.of_below hb []).own h2 (by simp),fun i row hi=> ?_⟩;obtain⟨a1,c1,a2,c2,q1,q2⟩:=h3 i row hi;exact⟨a1,c1,a2,c2,q1,q2.bel hb⟩
theorem v7i {vs:List (Value×Value)} {i:Nat} {p:Value×Value} (h:vs[i]?=some p):(vs.flatMap fun p=>[p.1,p.2])[i*2]?=some p.1/\(vs.flatMap fun p=>[p.1,p.2])[i*2+1]?=some p.2:=by
 induction vs generalizing i with
 | nil=>simp at h
 | cons q vs ih=>
  cases i with
  | zero=>simp at h;subst h;exact⟨rfl,rfl⟩
  | succ i=>have:=ih (i:=i) (by simpa using h);rw[Ap,show(i+1)*2=(i*2)+1+1 by omega];exact this
theorem q4x.ld {W:World} {N:Nat} {a:Option Addr} {n c:Nat} {rows:List (List (Int×NodeA))} (h:q4x W N (.slice a n c) rows) (hn:n=rows.length) {i:Nat} {row:List (Int×NodeA)} (hi:rows[i]?=some row):
  ∃g a1 c1 a2 c2,a=some ⟨g,0,none⟩/\n<=c/\ ∀X,Below W.heap.size W X->RowD X N (.slice a1 row.length c1) (.slice a2 row.length c2) row/\X.cell? ⟨g,i*2,none⟩=some (.slice a1 row.length c1)/\X.cell? ⟨g,i*2+1,none⟩=some (.slice a2 row.length c2)/\
   ldR Tryz.prog 79 (.pointer (some ⟨g,i*2,none⟩)) X= .ok (.agg #[.slice a1 row.length c1,.slice a2 row.length c2]) X:=by
 obtain⟨vs,h1,h2,h3⟩:=h.ex;obtain⟨a1,c1,a2,c2,q1,q2⟩:=h3 i row hi;have hl:=(AE.1 hi).1;rw[<- hn] at h2;rcases h2.2 with⟨_,h0⟩|⟨g,cap,M,e,e2,e3,e4,e5,e6,e7⟩;·omega
 ·injection e with e1 _ ec;have hb:Blk W g 79 M:=e3
  have I:∀j v,(vs.flatMap fun p=>[p.1,p.2])[j]?=some v->M[j]?=some v:=fun j v hj=>by
   have O:j<n*2:=by have:=(AE.1 hj).1;rw[h2.1] at this;exact this
   rw[<- Ad];have:(M.toList.take (n*2))[j]?=some v:=by rw[e7];exact hj
   rwa[AV,if_pos O] at this
  obtain⟨t1,t2⟩:=v7i q1;refine⟨g,a1,c1,a2,c2,e1,by omega,fun X hX=> ?_⟩;have L:=hb.bel hX;refine⟨q2.bel hX,(L.cell (i*2)).trans (I _ _ t1),(L.cell (i*2+1)).trans (I _ _ t2),?_⟩;refine L.ldAt (P:=Tryz.prog) (i*2) (fun j v hj=> ?_) Tryz.underlying79 rfl (by kernel_rfl);have S:j<2:=by have:=(AA.1 hj).1;simpa using this
  rcases(by omega:j=0\/j=1) with rfl|rfl;·simp at hj;subst hj;exact I _ _ t1
  ·simp at hj;subst hj;exact I _ _ t2
theorem v3w:(Tryz.prog.info? 79).map (fun i=>(i.zero,i.size,i.bytes))=some (some (.agg #[.slice none 0 0,.slice none 0 0]),2,48):=by kernel_rfl
theorem v3g (a1 a2:Option Addr) (n1 c1 n2 c2:Nat) (w:World):bslR Tryz.prog 69 1 #[(0,.agg #[.slice a1 n1 c1,.slice a2 n2 c2])] w= .ok (.slice (some ⟨w.heap.size,0,none⟩) 1 1) (w.alloc (.cells #[.slice a1 n1 c1,.slice a2 n2 c2] 79)):=by kernel_rfl
theorem q4x.push {W:World} {N:Nat} {v:Value} {rows:List (List (Int×NodeA))} {row:List (Int×NodeA)} {a1 a2:Option Addr} {c1 c2:Nat} (h:q4x W N v rows) (hr:RowD W N (.slice a1 row.length c1) (.slice a2 row.length c2) row) (hN:N<=W.heap.size) (hm:rows.length<=1000000):
  ∃a c w9,q0n Tryz.prog #[69,69] 69 #[v,.slice (some ⟨W.heap.size,0,none⟩) 1 1] (W.alloc (.cells #[.slice a1 row.length c1,.slice a2 row.length c2] 79))= .ok (.slice a (rows.length+1) c) w9/\
   q4x w9 N (.slice a (rows.length+1) c) (rows++[row])/\Only v.ownBlock.toList W w9:=by
 obtain⟨vs,h1,h2,h3⟩:=h.ex;obtain⟨i0,h8,Y,h7,h4⟩:=info_parts v3w;obtain⟨X,hX⟩:∃X,X=W.alloc (.cells #[.slice a1 row.length c1,.slice a2 row.length c2] 79):=⟨_,rfl⟩;have oX:Only [] W X:=by rw[hX];exact(Only.refl [] W).alloc _
 have kX:Blk X W.heap.size 79 #[.slice a1 row.length c1,.slice a2 row.length c2]:=by rw[hX];exact Blk.new _ _ _
 have h5:=oX.own h2 (by simp);obtain⟨v',w9,hA⟩:=q2b (P:=Tryz.prog) X N 69 69 79 i0 _ 2 48 Tryz.underlying69 h8 Y h7 h4 rfl (by decide) v rows.length _ h5 (.slice (some ⟨W.heap.size,0,none⟩) 1 1) 1 [.slice a1 row.length c1,.slice a2 row.length c2] (Or.inr ⟨W.heap.size,0,1,rfl,fun j u hj=>by rw[kX.cell (0+j),AQ];simpa using hj⟩) rfl (fun u hu=>by simp at hu;rcases hu with rfl|rfl<;>rfl) (by unfold maxLen;omega) (by omega) (AH hN oX.size);have L:=hA.own;have U:=hA.grown;obtain⟨va,vc,rfl⟩:=q0q L;have O:=hA.run;have ov:∀k,v.ownBlock=some k->N<=k/\ ∃cs,X.heap[k]?=some (.cells cs 79 (0,0)):=fun k hk=>q0l h5 k hk;have o9:Only v.ownBlock.toList X w9:=Only.of_grown (f:=v.ownBlock.toList) U (fun y hy=>by simp[hy])
 have keep:∀{b1 b2:Option Addr} {d1 d2:Nat} {r:List (Int×NodeA)},RowD W N (.slice b1 r.length d1) (.slice b2 r.length d2) r->RowD w9 N (.slice b1 r.length d1) (.slice b2 r.length d2) r:=fun{b1 b2 d1 d2 r} hR=>by
  have M:RowD X N (.slice b1 r.length d1) (.slice b2 r.length d2) r:=hR.only oX (by simp);refine⟨o9.own M.at' (fun k hk hm=> ?_),o9.own M.nd (fun k hk hm=> ?_)⟩;·obtain⟨_,cs,hc⟩:=q0l M.at' k hk;obtain⟨_,h6,I⟩:=ov k (by simpa[Option.mem_toList] using hm);rw[hc] at I;injection I with I;injection I with _ I _;cases I
  ·obtain⟨_,cs,hc⟩:=q0l M.nd k hk;obtain⟨_,h6,I⟩:=ov k (by simpa[Option.mem_toList] using hm);rw[hc] at I;injection I with I;injection I with _ I _;cases I
 refine⟨va,vc,w9,by rw[<- hX];exact O,⟨vs++[(.slice a1 row.length c1,.slice a2 row.length c2)],by simp[h1],?_,fun i r hi=> ?_⟩,(oX.mono (fun _ h=>by cases h)).trans o9 (fun y hy=>Or.inl hy)⟩;·rw[AI,Al];exact L
 ·by_cases e:i<rows.length;·rw[Aa e] at hi;obtain⟨b1,d1,b2,d2,q1,q2⟩:=h3 i r hi;exact⟨b1,d1,b2,d2,by rw[Aa (by omega)];exact q1,keep q2⟩
  ·have S:=(AE.1 hi).1;rw[AI,Bj] at S;obtain rfl:i=rows.length:=by omega
   rw[Ac (AG _),Bz] at hi;simp at hi;subst hi;exact⟨a1,c1,a2,c2,by rw[Ac (by omega)];simp[h1],keep hr⟩
end Go.Proofs.YtibiekfjbibpbaaGreat
