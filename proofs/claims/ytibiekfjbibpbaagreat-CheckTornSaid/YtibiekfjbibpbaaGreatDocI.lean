import Derived.Test.YtibiekfjbibpbaaGreatDocN
import Derived.Test.YtibiekfjbibpbaaGreatPlnM
set_option maxRecDepth 100000
set_option maxHeartbeats 1000000
set_option linter.unusedVariables false
set_option linter.unusedSimpArgs false
namespace Go.Proofs.YtibiekfjbibpbaaGreat
open Go.RowKit
attribute [local go_sem ↓ high] q0s q0f q0d q5l q7s q7o q6b q6p q0v v7r
attribute [local go_sem] q1x q1p q1v q2t q4g Oper.semAt_some q0h
def q8z (bs:List Int) (rs:List (List (Int×NodeA))):Prop:=z0p bs/\x3q bs/\ ∃n,q1y bs (wAt bs 2)=some n/\q3f (q1y bs) n.lv (wAt bs 2) none rs
def z0s (bs:List Int) (w:World) (e:Ending) (w':World):Prop:=Below w.heap.size w w'/\((∃rs a c,q8z bs rs/\e= .returned (.tuple #[.slice a rs.length c,.bool true])/\q4x w' w.heap.size (.slice a rs.length c) rs)\/((∀rs,¬q8z bs rs)/\e= .returned (.tuple #[.slice none 0 0,.bool false])))
theorem v0m (p:Option Addr) (cap:Nat) (bs:List Int) (n:Nat) (hn:n=bs.length) (hs: ¬0<q0w bs.length) (w:World):
  Calls Tryz.prog 24 #[.slice p n cap] w (z0s bs w):=by
 have OF:=hid (v6q p n cap (by rw[hn];exact hs) w);have HF:Hid (z0s bs w (.returned (.tuple #[.slice none 0 0,.bool false])) w):=hid ⟨Below.refl _ _,Or.inr ⟨fun rs h=>hs h.1.1,rfl⟩⟩;clear hn hs;go_enter Tryz.func24,Tryz.ntmps24;go_wp2_with fail;refine OF.out.mono ?_;rintro e w1 ⟨rfl,rfl⟩;go_wp2;go_ret2;exact HF.out
def z1x (f:Nat->Int):Array Value:= #[.int .u64 (f 0),.int .u64 (f 1),.int .u64 (f 2),.int .u64 (f 3),.int .u64 (f 4),.int .u64 (f 5),.int .u64 (f 6),.int .u64 (f 7)]
theorem v2e (f:Nat->Int) {i:Nat} (h:i<8):(z1x f)[i]?=some (.int .u64 (f i)):=by rcases(by omega:i=0\/i=1\/i=2\/i=3\/i=4\/i=5\/i=6\/i=7) with rfl|rfl|rfl|rfl|rfl|rfl|rfl|rfl<;>rfl
theorem x7s (f:Nat->Int) {i:Nat} (h:i<8):(z1x (wTo f i)).setIfInBounds i (.int .u64 (f i))=z1x (wTo f (i+1)):=by rcases(by omega:i=0\/i=1\/i=2\/i=3\/i=4\/i=5\/i=6\/i=7) with rfl|rfl|rfl|rfl|rfl|rfl|rfl|rfl<;>rfl
theorem v6a (f:Nat->Int):z1x (wTo f 8)=z1x f:=rfl
theorem v4o {w:World} {b:Nat} {f:Nat->Int} (h:Blk w b 52 (z1x f)):ldR Tryz.prog 52 (.pointer (some ⟨b,0,none⟩)) w= .ok (.agg (z1x f)) w:=h.ld Tryz.underlying52 rfl (by kernel_rfl)
structure R8I (w w0:World) (f:Nat->Int) (B7 i g:Nat) (W:World):Prop where
 b7:Blk W B7 52 (z1x (wTo f i))
 bel:Below w0.heap.size w0 W
 lt:w0.heap.size<=B7/\g<B7
 cells:∀j:Nat,j<8->W.cell? ⟨g,j,none⟩=some (.int .u64 (f j))
theorem z5i (W:World) (a1 a2:Option Addr) (n1 c1 n2 c2:Nat):∃W',stR Tryz.prog 79 (.pointer (some ⟨W.heap.size,0,none⟩)) (.agg #[.slice a1 n1 c1,.slice a2 n2 c2]) (W.alloc (.cells #[.slice none 0 0,.slice none 0 0] 79))= .ok () W'/\Blk W' W.heap.size 79 #[.slice a1 n1 c1,.slice a2 n2 c2]/\Below W.heap.size W W':=by obtain⟨W',h1,h2,h3⟩:=x6a (Blk.new W 79 #[.slice none 0 0,.slice none 0 0]) rfl a1 a2 n1 c1 n2 c2;have hb:Below W.heap.size W (W.alloc (.cells #[.slice none 0 0,.slice none 0 0] 79)):=ba (Below.refl _ _) _;exact⟨W',h1,h2,hb.trans (h3.below (fun x hx=>by simp at hx;omega) hb.size)⟩
structure RwI (bs:List Int) (w:World) (L ro:Int) (rows:List (List (Int×NodeA))) (k:Nat) (a lev:Int) (v:Value) (W:World):Prop where
 st:(0<=lev/\RTo (q1y bs) L ro rows lev a)\/(lev= -1/\q3f (q1y bs) L ro none rows)
 kl:k=rows.length
 few:(k:Int)=L-lev
 L15:0<=L/\L<=15
 ro0:ro≠0
 a0:rows=[]->a=ro
 au:0<=a/\a<=18446744073709551615
 rd:q4x W w.heap.size v rows
 bel:Below w.heap.size w W
 len:∀row∈rows,row.length<=bs.length/8
theorem v4u (p:Option Addr) (cap:Nat) (bs:List Int) (n:Nat) (hn:n=bs.length) (hs:0<q0w bs.length) (w:World) (h:q1m w p cap bs):
  Calls Tryz.prog 24 #[.slice p n cap] w (z0s bs w):=by
 have qa:=q1s hs;obtain⟨ns,zz⟩:∃ns:Nat,q0w bs.length=ns:=⟨(q0w bs.length).toNat,by omega⟩;have OF:=v8i p cap bs ns (by omega) (by omega) w h;rw[<- hn] at OF;have hl:n<=1000000:=by omega
 have OF:=hid OF;have H:=hid h;have HN:=hid hn;have HS:=hid hs;have kx:=hid (show nsI bs=ns/\2<bs.length/8/\8<=bs.length/8 by unfold nsI;omega);by_cases hok:∀i,1<=i->i<=ns->q2k bs i=true
 ·have vn:=hid hok;have qo:=hid (show z0p bs from⟨hs,fun i h1 h2=>hok i h1 (by have:=kx.out.1;omega)⟩);clear hn hs h qa zz hok;go_enter Tryz.func24,Tryz.ntmps24;go_wp2_with fail;refine OF.out.mono ?_;intro e w1 hp;obtain⟨g0,vC,vL,rfl,_⟩:=hp.yes vn.out;have kk:=hid hp.bel;clear hp;have WD:Hid (Calls Tryz.prog 78 #[.slice p n cap,.int .u64 0,.int .i64 8] w1 fun e w'=>Below w1.heap.size w1 w'/\ ∃v,e= .returned v/\rowW w' w1.heap.size v (q3o bs 0 8)):=hid (z6z p cap bs n HN.out hl 0 8 (by have:=kx.out.2.2;have:=HN.out;omega) w1 (q2d H.out kk.out));go_wp2_with fail;refine WD.out.mono ?_;rintro e w3 ⟨ha,v,rfl,Y⟩;have hf:=q4o bs 0 8;have U:=Y;unfold rowW at U;rw[hf] at U;obtain⟨g,cp,rfl,qx,qz,qd,q6⟩:=q2e U (by omega);obtain⟨W5,z4⟩:∃W5,W5=w3.alloc (.cells #[.int .u64 0,.int .u64 0,.int .u64 0,.int .u64 0,.int .u64 0,.int .u64 0,.int .u64 0,.int .u64 0] 52):=⟨_,rfl⟩;have k5:Below w3.heap.size w3 W5:=by rw[z4];exact ba (Below.refl _ _) _
  obtain⟨B7,zv⟩:∃B7,B7=w3.heap.size:=⟨_,rfl⟩;have k7:Blk W5 B7 52 (z1x (wTo (wAt bs) 0)):=by rw[z4,zv];exact Blk.new w3 52 (z1x (wTo (wAt bs) 0))
  have qt:Hid (R8I w w (wAt bs) B7 0 g W5):=by
   refine hid ⟨k7,bx (bx kk.out ha) k5,⟨by have:=kk.out.size;have:=ha.size;omega,by omega⟩,fun i hi=> ?_⟩;refine((Only.of_below k5 []).cell (p:=⟨g,i,none⟩) (by omega) (by simp)).trans ?_
   have:=q6 i (.int .u64 (wAt bs i)) (by
    rw[AM];unfold q3o;rw[AM,BM hi];unfold wdI wAt;have e:((0:Int)+8*(i:Int)).toNat=8*i:=by omega
    simp only[Option.map_some,e])
   rwa[AQ] at this
  have v2:=hid (⟨qx,qz,qd⟩:_/\_/\_);clear Y U qx qd q6 ha k5 k7 hf;go_wp2;rw[<- zv,<- z4];clear z4 zv;go_loopw [8] (fun iv wr=> ∃i:Nat,i<=8/\iv= .int .i64 i/\Hid (R8I w w (wAt bs) B7 i g wr)) (fun iv _=>(8- (intOf iv).toNat));case atStart=>exact⟨0,by omega,rfl,qt⟩
  case round=>
   obtain⟨i,hi,rfl,hI⟩:=hrel;obtain⟨wA,rfl⟩:∃x,x=wr:=⟨_,rfl⟩;have i0:(0:Int)<=(i:Int):=by omega
   by_cases hlt:i<8
   ·have i1:(i:Int)<8:=by omega
    have cg:=hI.out.cells i hlt;have c7:wA.cell? ⟨B7,i,none⟩=some (.int .u64 (wTo (wAt bs) i i)):=(hI.out.b7.cell i).trans (v2e _ hlt);have f7:=hI.out.b7.frozen i;have hN:Hid (R8I w w (wAt bs) B7 (i+1) g (wA.setCell ⟨B7,i,none⟩ (.int .u64 (wAt bs i)))):=by have o:Only [B7] wA (wA.setCell ⟨B7,i,none⟩ (.int .u64 (wAt bs i))):=(Only.refl _ wA).setCell (Or.inl (by simp)) _;have hh:=hI.out.lt;have h7:=hI.out.b7.set_ i (.int .u64 (wAt bs i));rw[x7s _ hlt] at h7;refine hid ⟨h7,hI.out.bel.trans (o.below (fun y hy=>by simp at hy;omega) hI.out.bel.size),hh,fun j hj=> ?_⟩;exact(o.cell (p:=⟨g,j,none⟩) (World.block_lt_of_cell? wA _ (hI.out.cells j hj)) (by simp;omega)).trans (hI.out.cells j hj)
    have qy:=hid hlt;clear hlt hi;go_wp2;go_roundw;case rel=>exact⟨i+1,qy.out,by go_num,hN⟩
    case measure=>simp[intOf];have:=qy.out;omega
   ·obtain rfl:i=8:=by omega
    have i1: ¬((8:Nat):Int)<8:=by omega
    have k7:=hI.out.b7;rw[v6a] at k7;have kg:=v4o k7;have HB:=hid hI.out.bel;clear hlt hi k7 hI qt v2;have HU:=hid (fun k (hk:k<8)=>q8v H.out.2.1 (k:=k) (by have:=kx.out.2.2;omega));have kb:=hid (fun W (hb:Below w.heap.size w W) (hn:∀rs,¬q8z bs rs)=>show z0s bs w (.returned (.tuple #[.slice none 0 0,.bool false])) W from⟨hb,Or.inr ⟨hn,rfl⟩⟩);by_cases hwk:q3p (wAt bs 0) (wAt bs 1) (wAt bs 2) (wAt bs 3) (wAt bs 4) (wAt bs 5) (wAt bs 6) (wAt bs 7)=true
    ·have SO:Hid (Calls Tryz.prog 93 #[.agg (z1x (wAt bs))] wA fun en w'=>en= .returned (.tuple #[.agg #[.int .u64 (wAt bs 1),.int .u64 (wAt bs 2)],.int .i64 0])/\Below wA.heap.size wA w'):=hid (v7d _ _ _ _ _ _ _ _ wA (HU.out 1 (by omega)).1 (HU.out 1 (by omega)).2 (HU.out 3 (by omega)).1 (HU.out 3 (by omega)).2 hwk);have q8:=hid hwk;clear hwk;go_wp2_with fail;refine SO.out.mono ?_;rintro e w6 ⟨rfl,kq⟩;have z5:=hid (bx HB.out kq);clear kq kg;obtain⟨sz,z9⟩:∃sz,sz=wAt bs 1:=⟨_,rfl⟩;obtain⟨ro,za⟩:∃ro,ro=wAt bs 2:=⟨_,rfl⟩;have L:=hid (⟨z9,za,by rw[z9];exact HU.out 1 (by omega),by rw[za];exact HU.out 2 (by omega)⟩:_/\_/\(0<=sz/\sz<=18446744073709551615)/\(0<=ro/\ro<=18446744073709551615));rw[<- z9,<- za];obtain⟨W7,kt⟩:∃W7,W7=w6.alloc (.cells #[.int .u64 sz,.int .u64 ro] 187):=⟨_,rfl⟩;have qm:Below w6.heap.size w6 W7:=by rw[kt];(repeat(first|exact Below.refl _ _|(refine ba ?_ _)|(refine Below.drew ?_)|(refine below_drewN ?_ _)|(refine Below.alloc ?_ (by first|omega|simp<;>omega) _)|(refine Below.setCell ?_ (by first|omega|simp<;>omega) _)|(refine bx ?_ (by assumption))|(refine Below.trans ?_ (Below.mono (by assumption) (by first|omega|simp<;>omega)))))
     have k9:Blk W7 w6.heap.size 187 #[.int .u64 sz,.int .u64 ro]:=by rw[kt];exact Blk.new _ _ _
     have h6:=hid (⟨bx z5.out qm,k9⟩:_/\_);have MY:=hid (fun W=>v9k sz ro n W L.out.2.2.1.1 L.out.2.2.1.2 L.out.2.2.2.1 L.out.2.2.2.2 (by omega) (by omega));have qb:=hid kt;clear kt qm k9 z9 za;go_upto_region 11 with fail;rw[<- qb.out];clear qb;have zx:W7.cell? ⟨w6.heap.size,0,none⟩=some (.int .u64 sz):=h6.out.2.cell 0;have qq:W7.cell? ⟨w6.heap.size,1,none⟩=some (.int .u64 ro):=h6.out.2.cell 1;by_cases he:mayZ sz ro n=true
     ·have kn:=hid (show x3q bs by
       unfold x3q;rw[<- L.out.1,<- L.out.2.1,<- HN.out];exact⟨by rw[L.out.1,L.out.2.1];exact q8.out,he⟩)
      rw[he] at MY;have km:=hid (fun(W:World) (hb:Below W7.heap.size W7 W)=>x5e p cap bs n HN.out hl ro L.out.2.2.2 W (q2d H.out (bx h6.out.1 hb)));clear he;cases hnd:q1y bs ro with
      | none=>
       have er:q8r bs ro= .tuple #[.agg (q0x q2w),.int .i64 6]:=by unfold q8r;rw[hnd]
       rw[er] at km;have ht:=hid (fun rs=>show ¬q8z bs rs from fun h=>by obtain⟨n',h1,_⟩:=h.2.2;rw[<- L.out.2.1,hnd] at h1;cases h1);clear hnd er;go_wp2_with fail;refine(MY.out _).mono ?_;rintro e w8 ⟨rfl,S⟩;have k4:w8.cell? ⟨w6.heap.size,1,none⟩=some (.int .u64 ro):=(h6.out.2.bel S).cell 1;go_wp2_with fail;refine(km.out _ S).mono ?_;rintro e w9 ⟨rfl,k8⟩;obtain⟨z7,hg,kh,h5⟩:=q3e w9 q2w;have h8:=hid (bx (bx (bx h6.out.1 S) k8) h5);clear kh h5 k8 S zx qq k4;go_wp2;go_ret2;exact kb.out _ h8.out ht.out
      | some nd=>
       have er:q8r bs ro= .tuple #[.agg (q0x nd),.int .i64 0]:=by unfold q8r;rw[hnd]
       rw[er] at km;have ko:=hid hnd;clear hnd er;go_wp2_with fail;refine(MY.out _).mono ?_;rintro e w8 ⟨rfl,S⟩;have k4:w8.cell? ⟨w6.heap.size,1,none⟩=some (.int .u64 ro):=(h6.out.2.bel S).cell 1;go_wp2_with fail;refine(km.out _ S).mono ?_;rintro e w9 ⟨rfl,k8⟩;obtain⟨z7,hg,kh,h5⟩:=q3e w9 nd;have h8:=hid (⟨bx (bx (bx h6.out.1 S) k8) h5,((h6.out.2.bel S).bel k8).bel h5,kh⟩:_/\_/\_);have d1:z7.cell? ⟨w6.heap.size,1,none⟩=some (.int .u64 ro):=h8.out.2.1.cell 1;have d0:z7.cell? ⟨w9.heap.size,0,none⟩=some (.int .i64 nd.lv):=kh.cell 0;have vf:=hid (q7l ko.out);have vg:Hid (RwI bs w nd.lv ro [] 0 ro nd.lv (.slice none 0 0) z7):=by have h1:=vf.out;refine hid ⟨Or.inl ⟨h1.1,RTo.start _ _ _⟩,rfl,by omega,h1,fun e=> ?_,fun _=>rfl,L.out.2.2.2,q4x.nil _ _,h8.out.1,fun _ h=>by cases h⟩;have:=ko.out;rw[e,z2p] at this;cases this
       have zc:=hid (show ∀rs,q3f (q1y bs) nd.lv ro none rs->q8z bs rs from fun rs h=>⟨qo.out,kn.out,nd,by rw[<- L.out.2.1];exact ko.out,by rw[<- L.out.2.1];exact h⟩);have k0:=hid (show(∀rs,¬q3f (q1y bs) nd.lv ro none rs)-> ∀rs,¬q8z bs rs from fun hh rs h=>by obtain⟨n',h1,h2⟩:=h.2.2;rw[<- L.out.2.1,ko.out] at h1;injection h1 with h1;subst h1;rw[<- L.out.2.1] at h2;exact hh rs h2);clear kh h5 k8 S zx qq k4 SO MY km kn qo HB z5 h6 h8 ko q8 HU;go_wp2;clear d1 d0 hg;go_loopw [13,14,15] (fun ov av lv wr=> ∃(oa:Option Addr) (oc k:Nat) (rows:List (List (Int×NodeA))) (a O:Int),ov= .slice oa k oc/\av= .int .u64 a/\lv= .int .i64 O/\Hid (RwI bs w nd.lv ro rows k a O (.slice oa k oc) wr)) (fun _ _ lv _=>(intOf lv+1).toNat);case atStart=>exact⟨none,0,0,[],ro,nd.lv,rfl,rfl,rfl,vg⟩
       case round=>
        obtain⟨oa,oc,k,rows,a,O,rfl,rfl,rfl,hI⟩:=hrel;obtain⟨wA,rfl⟩:∃x,x=wr:=⟨_,rfl⟩;by_cases hlv:0<=O
        ·have t0:O≥0:=hlv;have k1:Hid (RTo (q1y bs) nd.lv ro rows O a):=hid (hI.out.st.elim (fun h=>h.2) (fun h=>by omega));have HK:=hid (show k<=15/\0<=O/\O<=15 by have:=hI.out.few;have:=hI.out.L15;omega);have CH:=hid (v0t p cap bs n HN.out hl HS.out a O hI.out.au wA (q2d H.out hI.out.bel));have vd:=hid (fun q (hq:(Value.slice oa k oc).ownBlock=some q)=>show w.heap.size<=q by obtain⟨vs,_,h2,_⟩:=hI.out.rd.ex;rw[<- hI.out.kl] at h2;exact(h2.lt q hq).1);have vo:=hid (fun q (hq:(Value.slice oa k oc).ownBlock=some q)=>show q<wA.heap.size by obtain⟨vs,_,h2,_⟩:=hI.out.rd.ex;rw[<- hI.out.kl] at h2;exact(h2.lt q hq).2);clear hlv;go_wp2_with fail;refine CH.out.mono ?_;rintro e w2 ⟨kc,(⟨row,a1,a2,c1,c2,qn,rfl,Y,k3⟩|⟨qc,a1,n1,c1,a2,n2,c2,rfl⟩)⟩
         ·obtain⟨m,hm⟩:∃m,m=row.length:=⟨_,rfl⟩;rw[<- hm] at Y k3;rw[<- hm];obtain⟨W3,kj,z6,ha⟩:=z5i w2 a1 a2 m c1 m c2;have z3:=hid (⟨hI.out.rd.bel (bx kc ha:Below wA.heap.size wA W3),bx (bx hI.out.bel kc) ha,z6,Y.bel ha⟩:_/\_/\_/\_);have HR:=hid (⟨qn,hm,k3⟩:_/\_/\_);have v9:=hid kc.size;clear kc ha z6 qn hm k3 Y;have hz:=hid (show m<=1000000 by have:=HR.out.2.2;have:=HN.out;omega);have HD:=hid (fun W (hb:Below W3.heap.size W3 W)=>show q4x W w.heap.size (.slice oa k oc) rows/\Below w.heap.size w W/\Blk W w2.heap.size 79 #[.slice a1 m c1,.slice a2 m c2]/\RowD W wA.heap.size (.slice a1 m c1) (.slice a2 m c2) row from⟨z3.out.1.bel hb,bx z3.out.2.1 hb,z3.out.2.2.1.bel hb,z3.out.2.2.2.bel hb⟩);go_wp2;clear kj;go_loopw [18] (fun iv wr=> ∃i:Nat,i<=m/\iv= .int .i64 (i:Int)/\Hid (Below W3.heap.size W3 wr)/\Hid (∀i' x,i'<i->row[i']?=some x->mayN x.2 (q2a row i') (hasI row i')=true)) (fun iv _=>m- (intOf iv).toNat);case atStart=>exact⟨0,Af _,rfl,hid (Below.refl _ _),hid (fun i' x h=>absurd h (BP _))⟩
          case round=>
           obtain⟨i,hi,rfl,hB,qj⟩:=hrel;obtain⟨wB,rfl⟩:∃x,x=wr:=⟨_,rfl⟩;have vi:wB.cell? ⟨w2.heap.size,1,none⟩=some (.slice a2 m c2):=(HD.out wB hB.out).2.2.1.cell 1;have kg:=q8b (HD.out wB hB.out).2.2.1;by_cases him:i<m
           ·obtain⟨x,hx⟩:∃x,row[i]?=some x:=⟨_,AD (by have:=HR.out.2.1;omega)⟩;have i0:(0:Int)<=(i:Int):=by omega
            have i1:(i:Int)< (m:Int):=by omega
            have HG:=hid (z9w _ m c1 c2 a1 a2 row i wB (HD.out wB hB.out).2.2.2 HR.out.2.1 hz.out him);have HX:=hid hx;have zg:=hid him;clear hx him hi;go_wp2_with fail;refine HG.out.mono ?_;rintro e w4 ⟨rfl,qf⟩;obtain⟨hh,zh⟩:∃hh,hh=q2a row i:=⟨_,rfl⟩;obtain⟨hs,zl⟩:∃hs,hs=hasI row i:=⟨_,rfl⟩;rw[<- zh,<- zl];have kz:=hid (⟨zh,zl⟩:_/\_);have zf:=hid (bx hB.out qf);have zn:w4.cell? ⟨w2.heap.size,1,none⟩=some (.slice a2 m c2):=(HD.out w4 zf.out).2.2.1.cell 1;obtain⟨g2,e2,zk,I⟩:=(HD.out w4 zf.out).2.2.2.nodeL HR.out.2.1 HX.out;subst e2;have vk:=(I w4 (Below.refl _ _)).2;have MN:=hid (v4m x.2 hh hs w4);clear I zk qf zh zl vi kg;go_wp2_with fail;refine MN.out.mono ?_;rintro e w5 ⟨rfl,k5⟩;have q9:=hid (bx zf.out k5);clear zn vk k5;obtain⟨my,he⟩:∃my,my=mayN x.2 hh hs:=⟨_,rfl⟩;rw[<- he];have zy:=hid he;clear he;cases my
            ·have HF:=hid (kb.out w5 (HD.out w5 q9.out).2.1 (k0.out (k1.out.no fun zp h=>by
              have e:=h.1.det HR.out.1;subst e;have h1:=h.2.1 i x HX.out;rw[<- kz.out.1,<- kz.out.2,<- zy.out] at h1;cases h1)))
             go_wp2;go_ret2;exact HF.out
            ·go_wp2;go_loopw [21] (fun qv wr=> ∃q:Nat,q<=k/\qv= .int .i64 (q:Int)/\Hid (Below W3.heap.size W3 wr)) (fun qv _=>k- (intOf qv).toNat);case atStart=>exact⟨0,Af _,rfl,q9⟩
             case round=>
              obtain⟨q,hq,rfl,ke⟩:=hrel;obtain⟨wC,rfl⟩:∃x,x=wr:=⟨_,rfl⟩;by_cases hqk:q<k
              ·obtain⟨ur,z8⟩:∃ur,rows[q]?=some ur:=⟨_,AD (by have:=hI.out.kl;omega)⟩;obtain⟨go,b1,d1,b2,d2,e3,zs,M⟩:=(HD.out wC ke.out).1.ld hI.out.kl z8;subst e3;obtain⟨g1,e4,v4,_⟩:=(HD.out wC ke.out).2.2.2.addr HR.out.2.1 HX.out;subst e4;have kr:ur.length<=1000000:=by have:=hI.out.len ur (AJ z8);have:=HN.out;omega
               have KS:=hid (fun X (hb:Below wC.heap.size wC X)=>show(ldR Tryz.prog 79 (.pointer (some ⟨go,q*2,none⟩)) X= .ok (.agg #[.slice b1 ur.length d1,.slice b2 ur.length d2]) X/\X.cell? ⟨w2.heap.size,0,none⟩=some (.slice (some ⟨g1,0,none⟩) m c1)/\X.cell? ⟨g1,i,none⟩=some (.int .u64 x.1))/\Below wC.heap.size wC X from⟨⟨(M X hb).2.2.2,(HD.out X (bx ke.out hb)).2.2.1.cell 0,by obtain⟨vv,e4,_,h4⟩:=(HD.out X (bx ke.out hb)).2.2.2.addr HR.out.2.1 HX.out;injection e4 with e4;injection e4 with e4;rw[e4];exact h4⟩,hb⟩);have zb:=hid (fun X (hb:Below wC.heap.size wC X)=>x5m _ ur.length d1 d2 b1 b2 ur x.1 X (M X hb).1 rfl kr);have qs:q8u ur x.1= -1:=x2z (fun y hy e=>by have h1:=k1.out.each ur (AJ z8) y hy;obtain⟨p',kd⟩:=HR.out.1.whole;have h2:=kd.at' x (AJ HX.out);rw[e,h2.2.1] at h1;have h3:=h1.1;injection h3 with h3;have:=h1.2;rw[<- h3,h2.2.2] at this;omega);rw[qs] at zb;have B0:Below wC.heap.size wC wC.drew:=by(repeat(first|exact Below.refl _ _|(refine ba ?_ _)|(refine Below.drew ?_)|(refine below_drewN ?_ _)|(refine Below.alloc ?_ (by first|omega|simp<;>omega) _)|(refine Below.setCell ?_ (by first|omega|simp<;>omega) _)|(refine bx ?_ (by assumption))|(refine Below.trans ?_ (Below.mono (by assumption) (by first|omega|simp<;>omega)))))
               have q0:(0:Int)<=(q:Int):=by omega
               have q1:(q:Int)< (k:Int):=by omega
               have qp:=hid hqk;have v8:q<15:=by have:=HK.out.1;omega
               obtain⟨ul,h9⟩:∃ul,ul=ur.length:=⟨_,rfl⟩;rw[<- h9] at KS zb;clear h9 qs kr M z8 hqk hq zs v4;go_upto_region 33 with fail;go_cut [119] from 109 to 119 (fun s W=>s= .bool false/\Hid (Below wC.heap.size wC W))
               case first=>
                go_region_held3 (fun X=>(ldR Tryz.prog 79 (.pointer (some ⟨go,q*2,none⟩)) X= .ok (.agg #[.slice b1 ul d1,.slice b2 ul d2]) X/\X.cell? ⟨w2.heap.size,0,none⟩=some (.slice (some ⟨g1,0,none⟩) m c1)/\X.cell? ⟨g1,i,none⟩=some (.int .u64 x.1))/\Below wC.heap.size wC X) (first|(with_reducible exact KS.out _ B0)|(with_reducible exact KS.out _ B1))
                 (first
                 | (go_at_call 97;refine(zb.out _ B0).mono ?_;rintro e9 v1 ⟨rfl,vj⟩;have B1:Below wC.heap.size wC v1:=bx B0 vj))
                all_goals
                 try go_simp
                 try simp only[Act.put,List.setIfInBounds_toArray,List.set_cons_zero,List.set_cons_succ]
                 go_wp2_with fail;go_meet;exact⟨rfl,B1⟩
               case rest=>
                obtain⟨rfl,v0⟩:=hcut;go_wp2;go_roundw;case rel=>exact⟨q+1,qp.out,by go_num,hid (bx ke.out v0.out)⟩
                case measure=>simp[intOf];have:=qp.out;omega
              ·obtain rfl:q=k:=by omega
               have q1: ¬(q:Int)< (q:Int):=by omega
               have zo:Hid (∀i' x',i'<i+1->row[i']?=some x'->mayN x'.2 (q2a row i') (hasI row i')=true):=by
                refine hid fun i' x' h1 h2=> ?_;by_cases hi':i'<i;·exact qj.out i' x' hi' h2
                ·obtain rfl:i'=i:=by omega
                 rw[HX.out] at h2;injection h2 with h2;rw[<- h2,<- kz.out.1,<- kz.out.2,<- zy.out]
               have v3:i<1000000:=by have:=zg.out;have:=hz.out;omega
               clear hq hqk;go_wp2;go_roundw;case rel=>exact⟨i+1,zg.out,by go_num,ke,zo⟩
               case measure=>simp[intOf];have:=zg.out;omega
           ·obtain rfl:i=m:=by omega
            have i1: ¬(i:Int)< (i:Int):=by omega
            have qk:Hid (q9f row):=hid (fun i' x' h2=>qj.out i' x' (by have:=(AE.1 h2).1;have:=HR.out.2.1;omega) h2);clear hi him;have zd:=HD.out wB hB.out;have zd:=hid zd
            have v7:Hid ((∀u,rows.getLast?=some u->q4c u row)->row≠[]):=hid (fun hl=>by
             by_cases kp:rows=[];·have e:=hI.out.a0 kp;exact q7i HR.out.1 (by rw[e];exact hI.out.ro0)
             ·obtain⟨u,hu⟩:∃u,rows.getLast?=some u:=⟨_,List.getLast?_eq_some_getLast kp⟩;exact z0y (hl u hu) (k1.out.full u (Bo hu)))
            go_upto_region 35 with fail;go_cut [133] from 120 to 133 (fun zi W=> ∃b:Bool,zi= .bool b/\Hid (Below wB.heap.size wB W/\(b=false↔ ∀u,rows.getLast?=some u->q4c u row)))
            case first=>
             by_cases hk0:k=0
             ·have kp:rows=[]:=Am.1 (by have:=hI.out.kl;omega);have j1:decide ((k:Int)>0)=false:=AK (by omega);have j2: ¬(k:Int)>0:=by omega
              have j3:decide (0<k)=false:=AK (by omega);have j4: ¬0<k:=by omega
              have vh:=hid kp;clear hk0 kp;go_quiet (fail);go_wp2;go_meet;exact⟨false,rfl,by(repeat(first|exact Below.refl _ _|(refine ba ?_ _)|(refine Below.drew ?_)|(refine below_drewN ?_ _)|(refine Below.alloc ?_ (by first|omega|simp<;>omega) _)|(refine Below.setCell ?_ (by first|omega|simp<;>omega) _)|(refine bx ?_ (by assumption))|(refine Below.trans ?_ (Below.mono (by assumption) (by first|omega|simp<;>omega))))),⟨fun _ u hu=>(by rw[vh.out] at hu;cases hu),fun _=>rfl⟩⟩
             ·obtain⟨u,hu⟩:∃u,rows[k-1]?=some u:=⟨_,AD (by have:=hI.out.kl;omega)⟩;obtain⟨go,b1,d1,b2,d2,e3,zs,M⟩:=zd.out.1.ld hI.out.kl hu;subst e3;have kr:u.length<=1000000:=by have:=hI.out.len u (AJ hu);have:=HN.out;omega
              obtain⟨q,hq⟩:∃q,k-1=q:=⟨_,rfl⟩;rw[hq] at M hu;have qe:Hid (rows.getLast?=some u):=hid (by rw[BW,<- hI.out.kl,hq];exact hu);have LD:=hid (fun X (hb:Below wB.heap.size wB X)=>v0i _ _ u.length i d1 d2 c1 c2 b1 b2 a1 a2 u row X (M X hb).1 (HD.out X (bx hB.out hb)).2.2.2 rfl HR.out.2.1 kr hz.out (by obtain⟨p',kd⟩:=HR.out.1.whole;exact kd.nodup));have KL:=hid (fun X (hb:Below wB.heap.size wB X)=>(⟨(M X hb).2.2.2,q8b (HD.out X (bx hB.out hb)).2.2.1⟩:ldR Tryz.prog 79 (.pointer (some ⟨go,q*2,none⟩)) X= .ok (.agg #[.slice b1 u.length d1,.slice b2 u.length d2]) X/\ldR Tryz.prog 79 (.pointer (some ⟨w2.heap.size,0,none⟩)) X= .ok (.agg #[.slice a1 i c1,.slice a2 i c2]) X));have j0:(0:Int)<=(q:Int):=by omega
              have j1:(q:Int)< (k:Int):=by omega
              have j2:IntKind.i64.wrap ((k:Int)-1)=(q:Int):=by rw[IntWalk.i64_in _ (by have:=HK.out.1;constructor<;>omega)];omega
              have j3:decide ((k:Int)>0)=true:=AT (by omega);have j4:(k:Int)>0:=by omega
              have j5:decide (0<k)=true:=AT (by omega);have j6:0<k:=by omega
              obtain⟨z1,z2⟩:=KL.out wB.drew (by(repeat(first|exact Below.refl _ _|(refine ba ?_ _)|(refine Below.drew ?_)|(refine below_drewN ?_ _)|(refine Below.alloc ?_ (by first|omega|simp<;>omega) _)|(refine Below.setCell ?_ (by first|omega|simp<;>omega) _)|(refine bx ?_ (by assumption))|(refine Below.trans ?_ (Below.mono (by assumption) (by first|omega|simp<;>omega))))));obtain⟨ul,h9⟩:∃ul,ul=u.length:=⟨_,rfl⟩;rw[<- h9] at LD KL z1;clear h9 kr M hu hq hk0 zs;refine wp_region_still_tail 11 (by kernel_rfl) (by kernel_rfl) ?_;simp only[List.take_succ_cons,List.take_zero,List.drop_succ_cons,List.drop_zero];iterate 11 (with_reducible refine q0j ?_ (fun K hK=> ?_);(· kernel_rfl);go_simp;with_reducible refine hK _ ?_;clear hK K)
              with_reducible refine wpStill_nil ?_
              change wpList _ _ _ _ _ wB.drew;have ky:Below wB.heap.size wB wB.drew:=⟨rfl,rfl,rfl,AG _,fun _ _=>rfl⟩;have qi:=hid (LD.out _ ky);generalize wB.drew=W7 at ky qi ⊢;have h6:=hid ky;clear ky z1 z2;go_wp2_with fail;refine qi.out.mono ?_;rintro e w8 ⟨S,bb,rfl,qh⟩;have ze:=hid (bx h6.out S);have ql:=hid qh;clear qh S;go_wp2_with fail;go_meet
              exact⟨!bb,rfl,ze.out,⟨fun h u' z0=>(by
               rw[qe.out] at z0;injection z0 with z0;subst z0;exact ql.out.1 (by simpa using h)),fun h=>by
               have:=ql.out.2 (h u qe.out);rw[this];rfl⟩⟩
            case rest=>
             obtain⟨b,rfl,kf⟩:=hcut;have qg:=hid (bx hB.out kf.out.1);cases b
             ·have zm:=hid (kf.out.2.1 rfl);clear kf;obtain⟨q1,q2,q3,q4⟩:=HD.out wc qg.out;have hf:i=row.length:=HR.out.2.1;have zr:w.heap.size<=wA.heap.size:=hI.out.bel.size;have q5:RowD wc w.heap.size (.slice a1 row.length c1) (.slice a2 row.length c2) row:=by rw[<- hf];exact⟨q4.at'.mono zr,q4.nd.mono zr⟩
              obtain⟨va,vc,w9,zt,zq,ho⟩:=q1.push q5 q2.size (by have:=HK.out.1;have:=hI.out.kl;omega);rw[<- hf,<- hI.out.kl] at zt;rw[<- hI.out.kl] at zq;have kg:=q8b q3;have vp:=v3g a1 a2 i c1 i c2 wc;have zj:∀q∈(Value.slice oa k oc).ownBlock.toList,q<wA.heap.size:=fun q hq=>vo.out q (by simpa[Option.mem_toList] using hq);have k9:=ho.blk q3 (fun hm=>by have:=zj _ hm;have:=v9.out;omega);have r9:=q4.only ho (fun q hq=>Or.inl (zj q hq))
              obtain⟨x,hx⟩:∃x,row[0]?=some x:=by
               have v6:=v7.out zm.out;cases row with
               | nil=>exact absurd rfl v6
               | cons y r=>exact⟨y,rfl⟩
              obtain⟨g2,e2,zk,I⟩:=r9.node hf hx;subst e2;have v5:w9.cell? ⟨w2.heap.size,1,none⟩=some (.slice (some ⟨g2,0,none⟩) i c2):=k9.cell 1;have vr:w9.cell? ⟨g2,4,none⟩=some (.int .u64 x.2.fi):=by have:=I 4 (by omega);rw[Nat.zero_mul,AQ] at this;exact this
              have vq:(0:Int)< (i:Int):=by have:=(AE.1 hx).1;omega
              have wl:IntKind.i64.wrap (O-1)=O-1:=by rw[IntWalk.i64_in _ (by have:=HK.out;constructor<;>omega)]
              have b9:=q2.trans (ho.below (B:=w.heap.size) (fun q hq=>vd.out q (by simpa[Option.mem_toList] using hq)) q2.size);obtain⟨p',kd⟩:=HR.out.1.whole;have q7:=(kd.at' x (AJ hx)).2.1
              have ve:Hid (RwI bs w nd.lv ro (rows++[row]) (k+1) x.2.fi (O-1) (.slice va (k+1) vc) w9):=by
               refine hid ⟨?_,by rw[AI,hI.out.kl];rfl,by have:=hI.out.few;omega,hI.out.L15,hI.out.ro0,fun e=>absurd e (by simp),x5s H.out.2.1 q7,zq,b9,fun r hr=> ?_⟩
               ·by_cases h0:O=0;·right;have h1:=HR.out.1;have h2:=k1.out;subst h0;exact⟨by omega,h2.done h1 qk.out zm.out⟩
                ·left;refine⟨by have:=HK.out;omega,?_⟩;cases row with
                 | nil=>cases hx
                 | cons y r=>simp at hx;subst hx;exact k1.out.next HR.out.1 qk.out zm.out h0 rfl
               ·rcases An.1 hr with h|h;·exact hI.out.len r h
                ·rw[AF.1 h,<- hf];exact HR.out.2.2
              have vl:Hid ((O-1+1).toNat< (O+1).toNat):=hid (by have:=HK.out;omega);clear q1 q2 q3 q4 q5 zq ho zj k9 r9 hx I q7 kd zr b9 hf zk;go_wp2;go_roundw;case rel=>exact⟨va,vc,k+1,rows++[row],x.2.fi,O-1,rfl,rfl,rfl,ve⟩
              case measure=>simp only[intOf,wl];exact vl.out
             ·have HF:=hid (kb.out wc (HD.out wc qg.out).2.1 (k0.out (k1.out.no fun zp h=>by
               have e:=h.1.det HR.out.1;subst e;have:=kf.out.2.2 h.2.2;cases this)))
              clear kf;go_wp2;go_ret2;exact HF.out
         ·obtain⟨W3,kj,z6,ha⟩:=z5i w2 a1 a2 n1 c1 n2 c2;have HF:=hid (kb.out W3 (bx (bx hI.out.bel kc) ha) (k0.out (k1.out.no fun row h=>qc row h.1)));clear kc ha z6 qc;go_wp2;go_ret2;exact HF.out
        ·have t0: ¬O≥0:=hlv;have HF:Hid (z0s bs w (.returned (.tuple #[.slice oa k oc,.bool true])) wA):=by have h1:q3f (q1y bs) nd.lv ro none rows:=hI.out.st.elim (fun h=>by omega) (fun h=>h.2);have h2:=hI.out.kl;subst h2;exact hid ⟨hI.out.bel,Or.inl ⟨rows,oa,oc,zc.out _ h1,rfl,hI.out.rd⟩⟩
         clear hlv;go_wp2;go_ret2;exact HF.out
     ·have ki:mayZ sz ro n=false:=by simpa using he
      rw[ki] at MY;have ht:=hid (fun rs=>show ¬q8z bs rs from fun h=>he (by rw[L.out.1,L.out.2.1,HN.out];exact h.2.1.2));clear he ki;go_wp2_with fail;refine(MY.out _).mono ?_;rintro e w8 ⟨rfl,S⟩;have ze:=hid (bx h6.out.1 S);clear S;go_wp2;go_ret2;exact kb.out _ ze.out ht.out
    ·have SO:Hid (Calls Tryz.prog 93 #[.agg (z1x (wAt bs))] wA fun en w'=>en= .returned (.tuple #[.agg #[.int .u64 0,.int .u64 0],.int .i64 6])/\Below wA.heap.size wA w'):=hid (v9h _ _ _ _ _ _ _ _ wA (HU.out 1 (by omega)).1 (HU.out 1 (by omega)).2 (HU.out 3 (by omega)).1 (HU.out 3 (by omega)).2 (by simpa using hwk));have ht:=hid (fun rs=>show ¬q8z bs rs from fun h=>hwk h.2.1.1);clear hwk;go_wp2_with fail;refine SO.out.mono ?_;rintro e w6 ⟨rfl,kq⟩;have z5:=hid (bx HB.out kq);clear kq kg;go_wp2;go_ret2;exact kb.out _ (by refine bx z5.out ?_;(repeat(first|exact Below.refl _ _|(refine ba ?_ _)|(refine Below.drew ?_)|(refine below_drewN ?_ _)|(refine Below.alloc ?_ (by first|omega|simp<;>omega) _)|(refine Below.setCell ?_ (by first|omega|simp<;>omega) _)|(refine bx ?_ (by assumption))|(refine Below.trans ?_ (Below.mono (by assumption) (by first|omega|simp<;>omega)))))) ht.out
 ·have ht:=hid (fun rs=>show ¬q8z bs rs from fun h=>hok (fun i h1 h2=>h.1.2 i h1 (by have:=kx.out.1;omega)))
  have vm:Hid (∃i,1<=i/\i<=ns/\q2k bs i=false):=by
   refine hid (Classical.byContradiction fun hc=>hok fun i h1 h2=> ?_);cases hb:q2k bs i with
   | true=>rfl
   | false=>exact absurd ⟨i,h1,h2,hb⟩ hc
  clear hn hs h qa zz hok;go_enter Tryz.func24,Tryz.ntmps24;go_wp2_with fail;refine OF.out.mono ?_;intro e w1 hp;obtain rfl:=hp.no vm.out;have kk:=hid hp.bel;clear hp;go_wp2;go_ret2;exact⟨kk.out,Or.inr ⟨ht.out,rfl⟩⟩
end Go.Proofs.YtibiekfjbibpbaaGreat
