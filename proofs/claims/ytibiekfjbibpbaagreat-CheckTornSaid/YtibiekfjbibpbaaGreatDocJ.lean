import Derived.Test.YtibiekfjbibpbaaGreatDocI
set_option linter.unusedVariables false
set_option linter.unusedSimpArgs false
namespace Go.Proofs.YtibiekfjbibpbaaGreat
open Go.RowKit
theorem q3w {W:World} {k:Nat} {cs L:Array Value} {t t':TypeId} (h:W.heap[k]?=some (.cells cs t (0,0))) (h':W.heap[k]?=some (.cells L t' (0,0))) (I:t≠t'):False:=by rw[h] at h';injection h' with h';injection h' with _ h' _;exact I h'
theorem q4x.typ {W W':World} {N:Nat} {v:Value} {rows:List (List (Int×NodeA))} {f:List Nat} (h:q4x W N v rows) (ho:Only f W W') (hf:∀k∈f,∃cs t,W.heap[k]?=some (.cells cs t (0,0))/\t≠79/\t≠51/\t≠55):q4x W' N v rows:=by
 obtain⟨vs,h1,h2,h3⟩:=h.ex;refine⟨vs,h1,ho.own h2 (fun k hk hm=> ?_),fun i row hi=> ?_⟩;·obtain⟨_,cs,hc⟩:=q0l h2 k hk;obtain⟨L,t,I,n1,n2,n3⟩:=hf k hm;exact q3w I hc n1
 ·obtain⟨a1,c1,a2,c2,q1,q2⟩:=h3 i row hi;refine⟨a1,c1,a2,c2,q1,ho.own q2.at' (fun k hk hm=> ?_),ho.own q2.nd (fun k hk hm=> ?_)⟩;·obtain⟨_,cs,hc⟩:=q0l q2.at' k hk;obtain⟨L,t,I,n1,n2,n3⟩:=hf k hm;exact q3w I hc n2
  ·obtain⟨_,cs,hc⟩:=q0l q2.nd k hk;obtain⟨L,t,I,n1,n2,n3⟩:=hf k hm;exact q3w I hc n3
structure DkA (w:World) (b6 b7:Nat) (h nn:Int) (pr:Value) (ps:List (Int×ByteArray)) (v:Value) (xs:List Int) (W:World):Prop where
 k2:Blk W w.heap.size 32 #[.slice none 0 0,.slice none 0 0,.slice none 0 0,.slice none 0 0,.int .i64 0,.int .i64 0]
 k6:Blk W b6 32 #[pr,.slice none 0 0,.slice none 0 0,.slice none 0 0,.int .i64 h,.int .i64 nn]
 set:q2x W w.heap.size b7 v xs
 prow:W.ownsRow w.heap.size 48 2 pr ps.length (ps.flatMap q5v)
 bel:Below w.heap.size w W
 lt:w.heap.size<b6/\b6<b7
section
variable {w:World} {b6 b7:Nat} {h nn:Int} {pr:Value} {ps:List (Int×ByteArray)} {v:Value} {xs:List Int} {W W':World}
theorem DkA.bel2 (H:DkA w b6 b7 h nn pr ps v xs W) (hb:Below W.heap.size W W'):DkA w b6 b7 h nn pr ps v xs W':=⟨H.k2.bel hb,H.k6.bel hb,H.set.bel hb,(Only.of_below hb []).own H.prow (by simp),bx H.bel hb,H.lt⟩
theorem DkA.put (H:DkA w b6 b7 h nn pr ps v xs W) {v':Value} {a:Int} (hs:q2x W' w.heap.size b7 v' (insA xs a)) (ho:Only [b7] W W'):DkA w b6 b7 h nn pr ps v' (insA xs a) W':=by have hl:=H.lt;refine⟨ho.blk H.k2 (by simp;omega),ho.blk H.k6 (by simp;omega),hs,ho.own H.prow (fun k hk hm=> ?_),H.bel.trans (ho.below (fun x hx=>by simp at hx;omega) H.bel.size),hl⟩;obtain⟨_,cs,hc⟩:=q0l H.prow k hk;rw[AF.1 hm] at hc;exact q3w H.set.blk hc (by decide)
theorem DkA.node (H:DkA w b6 b7 h nn pr ps v xs W) (x:Int):DkA w b6 b7 h x pr ps v xs (W.setCell ⟨b6,5,none⟩ (.int .i64 x))/\Only [b6] W (W.setCell ⟨b6,5,none⟩ (.int .i64 x)):=by
 have ho:Only [b6] W (W.setCell ⟨b6,5,none⟩ (.int .i64 x)):=(Only.refl _ _).setCell (Or.inl (by simp)) _;have hl:=H.lt;refine⟨⟨ho.blk H.k2 (by simp;omega),H.k6.set_ 5 _,H.set.only ho (by simp;omega) (fun k hk hm=> ?_),ho.own H.prow (fun k hk hm=> ?_),H.bel.trans (ho.below (fun x hx=>by simp at hx;omega) H.bel.size),hl⟩,ho⟩;·obtain⟨_,cs,hc⟩:=q0l H.set.row k hk;rw[AF.1 hm] at hc;exact q3w H.k6 hc (by decide)
 ·obtain⟨_,cs,hc⟩:=q0l H.prow k hk;rw[AF.1 hm] at hc;exact q3w H.k6 hc (by decide)
theorem DkA.pair (H:DkA w b6 b7 h nn pr ps v xs W) (p:Int×ByteArray) (hm:ps.length<=1000000):
  ∃va vc w9,q0n Tryz.prog #[29,29] 29 #[pr,.slice (some ⟨W.heap.size,0,none⟩) 1 1] ((W.alloc (.cells #[.int .u64 p.1,.string p.2] 48)).drew)= .ok (.slice va (ps.length+1) vc) w9/\
   w9.cell? ⟨b6,0,none⟩=some pr/\w9.frozen? ⟨b6,0,none⟩=false/\DkA w b6 b7 h nn (.slice va (ps.length+1) vc) (ps++[p]) v xs (w9.setCell ⟨b6,0,none⟩ (.slice va (ps.length+1) vc))/\
   Only (b6::pr.ownBlock.toList) W (w9.setCell ⟨b6,0,none⟩ (.slice va (ps.length+1) vc)):=by
 obtain⟨i0,h2,O,Y,S⟩:=info_parts z4t;obtain⟨X,hX⟩:∃X,X=(W.alloc (.cells #[.int .u64 p.1,.string p.2] 48)).drew:=⟨_,rfl⟩;have oX:Only [] W X:=by rw[hX];exact((Only.refl [] W).alloc _).drew
 have kX:Blk X W.heap.size 48 #[.int .u64 p.1,.string p.2]:=by rw[hX];exact(Blk.new _ _ _).drew
 have h5:=oX.own H.prow (by simp);have hN:=H.bel.size;obtain⟨v',w9,hA⟩:=q2b (P:=Tryz.prog) X w.heap.size 29 29 48 i0 _ 2 24 Tryz.underlying29 h2 O Y S rfl (by decide) pr ps.length _ h5 (.slice (some ⟨W.heap.size,0,none⟩) 1 1) 1 [.int .u64 p.1,.string p.2] (Or.inr ⟨W.heap.size,0,1,rfl,fun j u hj=>by rw[kX.cell (0+j),AQ];simpa using hj⟩) rfl (fun u hu=>by simp at hu;rcases hu with rfl|rfl<;>rfl) (by unfold maxLen;omega) (by omega) (AH hN oX.size);have I:=hA.own;have M:=hA.grown;obtain⟨va,vc,rfl⟩:=q0q I;have L:=hA.run;have hl:=H.lt;have ov:∀k∈pr.ownBlock.toList,∃cs,W.heap[k]?=some (.cells cs 48 (0,0))/\w.heap.size<=k:=fun k hk=>by obtain⟨h1,cs,hc⟩:=q0l H.prow k (by simpa[Option.mem_toList] using hk);exact⟨cs,hc,h1⟩
 have oP:Only pr.ownBlock.toList X w9:=Only.of_grown (f:=pr.ownBlock.toList) M (fun y hy=>by simp[hy]);have o9:Only pr.ownBlock.toList W w9:=(oX.mono (fun _ h=>by cases h)).trans oP (fun y hy=>Or.inl hy);have oS:Only [b6] w9 (w9.setCell ⟨b6,0,none⟩ (.slice va (ps.length+1) vc)):=(Only.refl _ _).setCell (Or.inl (by simp)) _;have o2:Only (b6::pr.ownBlock.toList) W (w9.setCell ⟨b6,0,none⟩ (.slice va (ps.length+1) vc)):=(o9.mono (fun _ h=>AW _ h)).trans oS (fun x hx=>Or.inl (by rw[AF.1 hx];exact Ae ..));have n6:b6∉pr.ownBlock.toList:=fun hm=>by obtain⟨cs,hc,_⟩:=ov _ hm;exact q3w H.k6 hc (by decide)
 have k6:=o9.blk H.k6 n6;refine⟨va,vc,w9,by rw[<- hX];exact L,k6.cell 0,k6.frozen 0,⟨?_,k6.set_ 0 _,H.set.only o2 (fun hm=> ?_) (fun k hk hm=> ?_),?_,H.bel.trans (o2.below (fun x hx=> ?_) H.bel.size),hl⟩,o2⟩
 ·refine o2.blk H.k2 (fun hm=> ?_);rcases AN.1 hm with e|e;·omega
  ·obtain⟨cs,hc,_⟩:=ov _ e;exact q3w H.k2 hc (by decide)
 ·rcases AN.1 hm with e|e;·omega
  ·obtain⟨cs,hc,_⟩:=ov _ e;exact q3w H.set.blk hc (by decide)
 ·obtain⟨_,cs,hc⟩:=q0l H.set.row k hk;rcases AN.1 hm with e|e;·rw[e] at hc;exact q3w H.k6 hc (by decide)
  ·obtain⟨h3,U,_⟩:=ov _ e;exact q3w U hc (by decide)
 ·have:=oS.own I (fun k hk hm=>by
   obtain⟨_,cs,hc⟩:=q0l I k hk;rw[AF.1 hm] at hc;exact q3w k6 hc (by decide))
  rw[AI,Bj,Al];simpa[q5v] using this
 ·rcases AN.1 hx with e|e;·omega
  ·obtain⟨cs,hc,h1⟩:=ov _ e;exact h1
end
structure DkF (W1:World) (rb:Nat) (pr rv fv kv:Value) (h nn:Int) (fs ks:List Int) (W:World):Prop where
 only:Only [rb] W1 W
 rlt:rb<W1.heap.size
 rep:Blk W rb 32 #[pr,rv,fv,kv,.int .i64 h,.int .i64 nn]
 frow:rowU W W1.heap.size fv fs
 krow:rowU W W1.heap.size kv ks
 apf:∀k,fv.ownBlock=some k->kv.ownBlock≠some k
section
variable {W1 W W':World} {rb:Nat} {pr rv fv kv:Value} {h nn:Int} {fs ks:List Int}
theorem DkF.bel2 (H:DkF W1 rb pr rv fv kv h nn fs ks W) (hb:Below W.heap.size W W'):DkF W1 rb pr rv fv kv h nn fs ks W':=
 have ho:=Only.of_below hb []
 ⟨H.only.trans ho (fun _ h=>by cases h),H.rlt,H.rep.bel hb,ho.own H.frow (by simp),ho.own H.krow (by simp),H.apf⟩
theorem DkF.fault (H:DkF W1 rb pr rv fv kv h nn fs ks W) (x:Int) (hm:fs.length<=1000000):
  ∃va vc w9,q0n Tryz.prog #[30,30] 30 #[fv,.slice (some ⟨W.heap.size,0,none⟩) 1 1] (W.alloc (.cells #[.int .u64 x] 51))= .ok (.slice va (fs.length+1) vc) w9/\
   w9.cell? ⟨rb,2,none⟩=some fv/\w9.frozen? ⟨rb,2,none⟩=false/\DkF W1 rb pr rv (.slice va (fs.length+1) vc) kv h nn (fs++[x]) ks (w9.setCell ⟨rb,2,none⟩ (.slice va (fs.length+1) vc)):=by
 have hN:W1.heap.size<=W.heap.size:=H.only.size;obtain⟨va,vc,w9,h1,h2,h3,h4⟩:=q5f H.frow hN x hm;have hr:=H.rlt;have gf:∀k,fv.ownBlock=some k->W1.heap.size<=k/\k<W.heap.size:=H.frow.lt;have gk:∀k,kv.ownBlock=some k->W1.heap.size<=k/\k<W.heap.size:=H.krow.lt;have b9:Blk w9 rb 32 #[pr,rv,fv,kv,.int .i64 h,.int .i64 nn]:=h3.blk H.rep (fun L=>by have:=(gf rb (by simpa[Option.mem_toList] using L)).1;omega);have oS:Only [rb] w9 (w9.setCell ⟨rb,2,none⟩ (.slice va (fs.length+1) vc)):=(Only.refl _ _).setCell (Or.inl (by simp)) _;have o2:Only (rb::fv.ownBlock.toList) W (w9.setCell ⟨rb,2,none⟩ (.slice va (fs.length+1) vc)):=(h3.mono (fun _ h=>AW _ h)).trans oS (fun x hx=>Or.inl (by rw[AF.1 hx];exact Ae ..))
 have I:∀k,(Value.slice va (fs.length+1) vc).ownBlock=some k->kv.ownBlock≠some k/\W1.heap.size<=k:=by
  intro k hk;rcases h4 with h4|⟨k',h4,h5⟩;·rw[h4] at hk;exact⟨H.apf k hk,(gf k hk).1⟩
  ·rw[h4] at hk;injection hk with hk;exact⟨fun e=>by have:=(gk k e).2;omega,by omega⟩
 refine⟨va,vc,w9,h1,b9.cell 2,b9.frozen 2,⟨?_,hr,b9.set_ 2 _,?_,?_,fun k hk=>(I k hk).1⟩⟩
 ·exact H.only.trans o2 (fun y hy=>by
   rcases AN.1 hy with e|e;·left;rw[e];simp
   ·right;exact(gf y (by simpa[Option.mem_toList] using e)).1)
 ·unfold rowU;exact oS.own h2 (fun k hk L=>by have:=(I k hk).2;simp at L;omega)
 ·refine o2.own H.krow (fun k hk L=> ?_);rcases AN.1 L with e|e;·have:=(gk k hk).1;omega
  ·exact H.apf k (by simpa[Option.mem_toList] using e) hk
theorem DkF.leak (H:DkF W1 rb pr rv fv kv h nn fs ks W) (x:Int) (hm:ks.length<=1000000):
  ∃va vc w9,q0n Tryz.prog #[30,30] 30 #[kv,.slice (some ⟨W.heap.size,0,none⟩) 1 1] (W.alloc (.cells #[.int .u64 x] 51))= .ok (.slice va (ks.length+1) vc) w9/\
   w9.cell? ⟨rb,3,none⟩=some kv/\w9.frozen? ⟨rb,3,none⟩=false/\DkF W1 rb pr rv fv (.slice va (ks.length+1) vc) h nn fs (ks++[x]) (w9.setCell ⟨rb,3,none⟩ (.slice va (ks.length+1) vc)):=by
 have hN:W1.heap.size<=W.heap.size:=H.only.size;obtain⟨va,vc,w9,h1,h2,h3,h4⟩:=q5f H.krow hN x hm;have hr:=H.rlt;have gf:∀k,fv.ownBlock=some k->W1.heap.size<=k/\k<W.heap.size:=H.frow.lt;have gk:∀k,kv.ownBlock=some k->W1.heap.size<=k/\k<W.heap.size:=H.krow.lt;have b9:Blk w9 rb 32 #[pr,rv,fv,kv,.int .i64 h,.int .i64 nn]:=h3.blk H.rep (fun L=>by have:=(gk rb (by simpa[Option.mem_toList] using L)).1;omega);have oS:Only [rb] w9 (w9.setCell ⟨rb,3,none⟩ (.slice va (ks.length+1) vc)):=(Only.refl _ _).setCell (Or.inl (by simp)) _;have o2:Only (rb::kv.ownBlock.toList) W (w9.setCell ⟨rb,3,none⟩ (.slice va (ks.length+1) vc)):=(h3.mono (fun _ h=>AW _ h)).trans oS (fun x hx=>Or.inl (by rw[AF.1 hx];exact Ae ..))
 have I:∀k,(Value.slice va (ks.length+1) vc).ownBlock=some k->fv.ownBlock≠some k/\W1.heap.size<=k:=by
  intro k hk;rcases h4 with h4|⟨k',h4,h5⟩;·rw[h4] at hk;exact⟨fun e=>H.apf k e hk,(gk k hk).1⟩
  ·rw[h4] at hk;injection hk with hk;exact⟨fun e=>by have:=(gf k e).2;omega,by omega⟩
 refine⟨va,vc,w9,h1,b9.cell 3,b9.frozen 3,⟨?_,hr,b9.set_ 3 _,?_,?_,fun k hk M=>(I k M).1 hk⟩⟩
 ·exact H.only.trans o2 (fun y hy=>by
   rcases AN.1 hy with e|e;·left;rw[e];simp
   ·right;exact(gk y (by simpa[Option.mem_toList] using e)).1)
 ·refine o2.own H.frow (fun k hk L=> ?_);rcases AN.1 L with e|e;·have:=(gf k hk).1;omega
  ·exact H.apf k hk (by simpa[Option.mem_toList] using e)
 ·unfold rowU;exact oS.own h2 (fun k hk L=>by have:=(I k hk).2;simp at L;omega)
end
theorem x9e {bs:List Int} (hb:∀x∈bs,0<=x/\x<256) (a:Int) (k:Nat) (c:Int) (U:clsI bs a=c) (hc:c=1\/c=2) (Y:a=8*k) (hk:k+8*c.toNat<=bs.length/8) {N:Nat} {v:Value} (w:World) (h:rowW w N v (q3o bs a (8*c.toNat))):
  Calls Tryz.prog 77 #[.int .i64 c,v] w fun e w'=>e= .returned (q2m c (blkN bs a))/\Below w.heap.size w w':=by
 have hbl:blkN bs a=((q5g bs).drop k).take (8*c.toNat):=by unfold blkN;rw[U,show(a/8).toNat=k by omega]
 have I:(blkN bs a).length=8*c.toNat:=by rw[hbl,AU,At,q4w];omega
 have h':=h;unfold rowW at h';rw[q4o] at h';obtain⟨g,cap,rfl,_,h2,h3,h4⟩:=q2e h' (by rcases hc with rfl|rfl<;>decide)
 have hw:q1r w g 0 (blkN bs a):=by
  refine⟨h3,fun i x hi=> ?_⟩;have L:=(AE.1 hi).1;rw[I] at L;refine h4 i _ ?_;rw[AM];unfold q3o;rw[AM,BM L];simp only[Option.map_some];rw[hbl,AV,if_pos L,Ar] at hi;obtain⟨y,hy,O,_⟩:=q3l hb (k:=k+i) (by omega);rw[hi] at hy;injection hy with hy;have e:wdI bs (a+8*(i:Int))=wAt bs (k+i):=by unfold wdI wAt;rw[show(a+8*(i:Int)).toNat=8*(k+i) by omega]
  rw[e,hy,O]
 cases hbk:blkN bs a with
 | nil=>rw[hbk] at I;simp at I;omega
 | cons n ns=>rw[hbk] at I hw;refine v2d c hc n ns (by simpa using I) (fun x hx=> ?_) g 0 _ _ rfl h2 w hw;rw[<- hbk,hbl] at hx;obtain⟨j,hj⟩:=Bb.1 (Ak (Ab hx));have M:=(AE.1 hj).1;rw[q4w] at M;obtain⟨y,hy,_,S⟩:=q3l hb M;rw[hj] at hy;injection hy with hy;rw[hy];exact S
end Go.Proofs.YtibiekfjbibpbaaGreat
