/- The document's Look: the report while it is made. -/
import Derived.Test.YtibiekfjbibpbaaGreatDocI
set_option linter.unusedVariables false
set_option linter.unusedSimpArgs false
namespace Go.Proofs.YtibiekfjbibpbaaGreat
open Go.RowKit
theorem typ_ne {W:World} {k:Nat} {cs cs':Array Value} {t t':TypeId} (h:W.heap[k]?=some (.cells cs t (0,0))) (h':W.heap[k]?=some (.cells cs' t' (0,0))) (hne:t≠t'):False:=by
 rw[h] at h'
 injection h' with h'
 injection h' with _ h' _
 exact hne h'
theorem RowsD.typ {W W':World} {N:Nat} {v:Value} {rows:List (List (Int×NodeA))} {f:List Nat} (h:RowsD W N v rows) (ho:Only f W W') (hf: ∀k∈f,∃cs t,W.heap[k]?=some (.cells cs t (0,0))∧t≠79∧t≠51∧t≠55):RowsD W' N v rows:=by
 obtain⟨vs,h1,h2,h3⟩:=h.ex
 refine⟨vs,h1,ho.own h2 (fun k hk hm=> ?_),fun i row hi=> ?_⟩
 ·obtain⟨_,cs,hc⟩:=own_typed h2 k hk
  obtain⟨cs',t,hc',n1,n2,n3⟩:=hf k hm
  exact typ_ne hc' hc n1
 ·obtain⟨a1,c1,a2,c2,q1,q2⟩:=h3 i row hi
  refine⟨a1,c1,a2,c2,q1,ho.own q2.at' (fun k hk hm=> ?_),ho.own q2.nd (fun k hk hm=> ?_)⟩
  ·obtain⟨_,cs,hc⟩:=own_typed q2.at' k hk
   obtain⟨cs',t,hc',n1,n2,n3⟩:=hf k hm
   exact typ_ne hc' hc n2
  ·obtain⟨_,cs,hc⟩:=own_typed q2.nd k hk
   obtain⟨cs',t,hc',n1,n2,n3⟩:=hf k hm
   exact typ_ne hc' hc n3
structure DkA (w:World) (b6 b7:Nat) (h nn:Int) (pr:Value) (ps:List (Int×ByteArray)) (v:Value) (xs:List Int) (W:World):Prop where
 k2:Blk W w.heap.size 32 #[.slice none 0 0,.slice none 0 0,.slice none 0 0,.slice none 0 0,.int .i64 0,.int .i64 0]
 k6:Blk W b6 32 #[pr,.slice none 0 0,.slice none 0 0,.slice none 0 0,.int .i64 h,.int .i64 nn]
 set:AddrsIs W w.heap.size b7 v xs
 prow:W.ownsRow w.heap.size 48 2 pr ps.length (ps.flatMap pairC)
 bel:Below w.heap.size w W
 lt:w.heap.size<b6∧b6<b7
section
variable {w:World} {b6 b7:Nat} {h nn:Int} {pr:Value} {ps:List (Int×ByteArray)} {v:Value} {xs:List Int} {W W':World}
theorem DkA.bel2 (H:DkA w b6 b7 h nn pr ps v xs W) (hb:Below W.heap.size W W'):DkA w b6 b7 h nn pr ps v xs W':=
 ⟨H.k2.bel hb,H.k6.bel hb,H.set.bel hb,(Only.of_below hb []).own H.prow (by simp),bx H.bel hb,H.lt⟩
theorem DkA.put (H:DkA w b6 b7 h nn pr ps v xs W) {v':Value} {a:Int} (hs:AddrsIs W' w.heap.size b7 v' (insA xs a)) (ho:Only [b7] W W'):DkA w b6 b7 h nn pr ps v' (insA xs a) W':=by
 have hl:=H.lt
 refine⟨ho.blk H.k2 (by simp;omega),ho.blk H.k6 (by simp;omega),hs,ho.own H.prow (fun k hk hm=> ?_),H.bel.trans (ho.below (fun x hx=>by simp at hx;omega) H.bel.size),hl⟩
 obtain⟨_,cs,hc⟩:=own_typed H.prow k hk
 rw[List.mem_singleton.1 hm] at hc
 exact typ_ne H.set.blk hc (by decide)
theorem DkA.node (H:DkA w b6 b7 h nn pr ps v xs W) (x:Int):DkA w b6 b7 h x pr ps v xs (W.setCell ⟨b6,5,none⟩ (.int .i64 x))∧Only [b6] W (W.setCell ⟨b6,5,none⟩ (.int .i64 x)):=by
 have ho:Only [b6] W (W.setCell ⟨b6,5,none⟩ (.int .i64 x)):=(Only.refl _ _).setCell (Or.inl (by simp)) _
 have hl:=H.lt
 refine⟨⟨ho.blk H.k2 (by simp;omega),H.k6.set_ 5 _,H.set.only ho (by simp;omega) (fun k hk hm=> ?_),ho.own H.prow (fun k hk hm=> ?_),H.bel.trans (ho.below (fun x hx=>by simp at hx;omega) H.bel.size),hl⟩,ho⟩
 ·obtain⟨_,cs,hc⟩:=own_typed H.set.row k hk
  rw[List.mem_singleton.1 hm] at hc
  exact typ_ne H.k6 hc (by decide)
 ·obtain⟨_,cs,hc⟩:=own_typed H.prow k hk
  rw[List.mem_singleton.1 hm] at hc
  exact typ_ne H.k6 hc (by decide)
theorem DkA.pair (H:DkA w b6 b7 h nn pr ps v xs W) (p:Int×ByteArray) (hm:ps.length≤1000000):
  ∃va vc w9,appRun2 Tryz.prog #[29,29] 29 #[pr,.slice (some ⟨W.heap.size,0,none⟩) 1 1] ((W.alloc (.cells #[.int .u64 p.1,.string p.2] 48)).drew)= .ok (.slice va (ps.length+1) vc) w9∧
   w9.cell? ⟨b6,0,none⟩=some pr∧w9.frozen? ⟨b6,0,none⟩=false∧DkA w b6 b7 h nn (.slice va (ps.length+1) vc) (ps++[p]) v xs (w9.setCell ⟨b6,0,none⟩ (.slice va (ps.length+1) vc))∧
   Only (b6::pr.ownBlock.toList) W (w9.setCell ⟨b6,0,none⟩ (.slice va (ps.length+1) vc)):=by
 obtain⟨i0,hi0,hz0,hz1,hz2⟩:=info_parts infoPair
 obtain⟨X,hX⟩: ∃X,X=(W.alloc (.cells #[.int .u64 p.1,.string p.2] 48)).drew:=⟨_,rfl⟩
 have oX:Only [] W X:=by rw[hX];exact((Only.refl [] W).alloc _).drew
 have kX:Blk X W.heap.size 48 #[.int .u64 p.1,.string p.2]:=by rw[hX];exact(Blk.new _ _ _).drew
 have h5:=oX.own H.prow (by simp)
 have hN:=H.bel.size
 obtain⟨v',w9,hA⟩:=run_app (P:=Tryz.prog) X w.heap.size 29 29 48 i0 _ 2 24 Tryz.underlying29 hi0 hz0 hz1 hz2 rfl (by decide) pr ps.length _ h5 (.slice (some ⟨W.heap.size,0,none⟩) 1 1) 1 [.int .u64 p.1,.string p.2] (Or.inr ⟨W.heap.size,0,1,rfl,fun j u hj=>by
  rw[kX.cell (0+j),Nat.zero_add];simpa using hj⟩) rfl (fun u hu=>by
   simp at hu
   rcases hu with rfl | rfl<;>rfl) (by unfold maxLen;omega) (by omega) (Nat.le_trans hN oX.size)
 have hown:=hA.own
 have hgr:=hA.grown
 obtain⟨va,vc,rfl⟩:=row_form1 hown
 have hrun:=hA.run
 have hl:=H.lt
 have ov: ∀k∈pr.ownBlock.toList,∃cs,W.heap[k]?=some (.cells cs 48 (0,0))∧w.heap.size≤k:=fun k hk=>by
  obtain⟨h1,cs,hc⟩:=own_typed H.prow k (by simpa[Option.mem_toList] using hk)
  exact⟨cs,hc,h1⟩
 have oP:Only pr.ownBlock.toList X w9:=Only.of_grown (f:=pr.ownBlock.toList) hgr (fun y hy=>by simp[hy])
 have o9:Only pr.ownBlock.toList W w9:=(oX.mono (fun _ h=>by cases h)).trans oP (fun y hy=>Or.inl hy)
 have oS:Only [b6] w9 (w9.setCell ⟨b6,0,none⟩ (.slice va (ps.length+1) vc)):=(Only.refl _ _).setCell (Or.inl (by simp)) _
 have o2:Only (b6::pr.ownBlock.toList) W (w9.setCell ⟨b6,0,none⟩ (.slice va (ps.length+1) vc)):=(o9.mono (fun _ h=>List.mem_cons_of_mem _ h)).trans oS (fun x hx=>Or.inl (by rw[List.mem_singleton.1 hx];exact List.mem_cons_self ..))
 have n6:b6∉pr.ownBlock.toList:=fun hm=>by obtain⟨cs,hc,_⟩:=ov _ hm;exact typ_ne H.k6 hc (by decide)
 have k6:=o9.blk H.k6 n6
 refine⟨va,vc,w9,by rw[←hX];exact hrun,k6.cell 0,k6.frozen 0,⟨?_,k6.set_ 0 _,H.set.only o2 (fun hm=> ?_) (fun k hk hm=> ?_),?_,H.bel.trans (o2.below (fun x hx=> ?_) H.bel.size),hl⟩,o2⟩
 ·refine o2.blk H.k2 (fun hm=> ?_)
  rcases List.mem_cons.1 hm with e | e
  ·omega
  ·obtain⟨cs,hc,_⟩:=ov _ e;exact typ_ne H.k2 hc (by decide)
 ·rcases List.mem_cons.1 hm with e | e
  ·omega
  ·obtain⟨cs,hc,_⟩:=ov _ e;exact typ_ne H.set.blk hc (by decide)
 ·obtain⟨_,cs,hc⟩:=own_typed H.set.row k hk
  rcases List.mem_cons.1 hm with e | e
  ·rw[e] at hc;exact typ_ne H.k6 hc (by decide)
  ·obtain⟨cs',hc',_⟩:=ov _ e;exact typ_ne hc' hc (by decide)
 ·have:=oS.own hown (fun k hk hm=>by
   obtain⟨_,cs,hc⟩:=own_typed hown k hk
   rw[List.mem_singleton.1 hm] at hc
   exact typ_ne k6 hc (by decide))
  rw[List.length_append,List.length_singleton,List.flatMap_append]
  simpa[pairC] using this
 ·rcases List.mem_cons.1 hx with e | e
  ·omega
  ·obtain⟨cs,hc,h1⟩:=ov _ e;exact h1
end
structure DkF (W1:World) (rb:Nat) (pr rv fv kv:Value) (h nn:Int) (fs ks:List Int) (W:World):Prop where
 only:Only [rb] W1 W
 rlt:rb<W1.heap.size
 rep:Blk W rb 32 #[pr,rv,fv,kv,.int .i64 h,.int .i64 nn]
 frow:rowU W W1.heap.size fv fs
 krow:rowU W W1.heap.size kv ks
 apf: ∀k,fv.ownBlock=some k→kv.ownBlock≠some k
section
variable {W1 W W':World} {rb:Nat} {pr rv fv kv:Value} {h nn:Int} {fs ks:List Int}
theorem DkF.bel2 (H:DkF W1 rb pr rv fv kv h nn fs ks W) (hb:Below W.heap.size W W'):DkF W1 rb pr rv fv kv h nn fs ks W':=
 have ho:=Only.of_below hb []
 ⟨H.only.trans ho (fun _ h=>by cases h),H.rlt,H.rep.bel hb,ho.own H.frow (by simp),ho.own H.krow (by simp),H.apf⟩
theorem DkF.fault (H:DkF W1 rb pr rv fv kv h nn fs ks W) (x:Int) (hm:fs.length≤1000000):
  ∃va vc w9,appRun2 Tryz.prog #[30,30] 30 #[fv,.slice (some ⟨W.heap.size,0,none⟩) 1 1] (W.alloc (.cells #[.int .u64 x] 51))= .ok (.slice va (fs.length+1) vc) w9∧
   w9.cell? ⟨rb,2,none⟩=some fv∧w9.frozen? ⟨rb,2,none⟩=false∧DkF W1 rb pr rv (.slice va (fs.length+1) vc) kv h nn (fs++[x]) ks (w9.setCell ⟨rb,2,none⟩ (.slice va (fs.length+1) vc)):=by
 have hN:W1.heap.size≤W.heap.size:=H.only.size
 obtain⟨va,vc,w9,h1,h2,h3,h4⟩:=addr_push H.frow hN x hm
 have hr:=H.rlt
 have gf: ∀k,fv.ownBlock=some k→W1.heap.size≤k∧k<W.heap.size:=H.frow.lt
 have gk: ∀k,kv.ownBlock=some k→W1.heap.size≤k∧k<W.heap.size:=H.krow.lt
 have b9:Blk w9 rb 32 #[pr,rv,fv,kv,.int .i64 h,.int .i64 nn]:=h3.blk H.rep (fun hmm=>by have:=(gf rb (by simpa[Option.mem_toList] using hmm)).1;omega)
 have oS:Only [rb] w9 (w9.setCell ⟨rb,2,none⟩ (.slice va (fs.length+1) vc)):=(Only.refl _ _).setCell (Or.inl (by simp)) _
 have o2:Only (rb::fv.ownBlock.toList) W (w9.setCell ⟨rb,2,none⟩ (.slice va (fs.length+1) vc)):=(h3.mono (fun _ h=>List.mem_cons_of_mem _ h)).trans oS (fun x hx=>Or.inl (by rw[List.mem_singleton.1 hx];exact List.mem_cons_self ..))
 have hnew: ∀k,(Value.slice va (fs.length+1) vc).ownBlock=some k→kv.ownBlock≠some k∧W1.heap.size≤k:=by
  intro k hk
  rcases h4 with h4 | ⟨k',h4,h5⟩
  ·rw[h4] at hk
   exact⟨H.apf k hk,(gf k hk).1⟩
  ·rw[h4] at hk
   injection hk with hk
   exact⟨fun e=>by have:=(gk k e).2;omega,by omega⟩
 refine⟨va,vc,w9,h1,b9.cell 2,b9.frozen 2,⟨?_,hr,b9.set_ 2 _,?_,?_,fun k hk=>(hnew k hk).1⟩⟩
 ·exact H.only.trans o2 (fun y hy=>by
   rcases List.mem_cons.1 hy with e | e
   ·left;rw[e];simp
   ·right;exact(gf y (by simpa[Option.mem_toList] using e)).1)
 ·unfold rowU
  exact oS.own h2 (fun k hk hmm=>by have:=(hnew k hk).2;simp at hmm;omega)
 ·refine o2.own H.krow (fun k hk hmm=> ?_)
  rcases List.mem_cons.1 hmm with e | e
  ·have:=(gk k hk).1;omega
  ·exact H.apf k (by simpa[Option.mem_toList] using e) hk
theorem DkF.leak (H:DkF W1 rb pr rv fv kv h nn fs ks W) (x:Int) (hm:ks.length≤1000000):
  ∃va vc w9,appRun2 Tryz.prog #[30,30] 30 #[kv,.slice (some ⟨W.heap.size,0,none⟩) 1 1] (W.alloc (.cells #[.int .u64 x] 51))= .ok (.slice va (ks.length+1) vc) w9∧
   w9.cell? ⟨rb,3,none⟩=some kv∧w9.frozen? ⟨rb,3,none⟩=false∧DkF W1 rb pr rv fv (.slice va (ks.length+1) vc) h nn fs (ks++[x]) (w9.setCell ⟨rb,3,none⟩ (.slice va (ks.length+1) vc)):=by
 have hN:W1.heap.size≤W.heap.size:=H.only.size
 obtain⟨va,vc,w9,h1,h2,h3,h4⟩:=addr_push H.krow hN x hm
 have hr:=H.rlt
 have gf: ∀k,fv.ownBlock=some k→W1.heap.size≤k∧k<W.heap.size:=H.frow.lt
 have gk: ∀k,kv.ownBlock=some k→W1.heap.size≤k∧k<W.heap.size:=H.krow.lt
 have b9:Blk w9 rb 32 #[pr,rv,fv,kv,.int .i64 h,.int .i64 nn]:=h3.blk H.rep (fun hmm=>by have:=(gk rb (by simpa[Option.mem_toList] using hmm)).1;omega)
 have oS:Only [rb] w9 (w9.setCell ⟨rb,3,none⟩ (.slice va (ks.length+1) vc)):=(Only.refl _ _).setCell (Or.inl (by simp)) _
 have o2:Only (rb::kv.ownBlock.toList) W (w9.setCell ⟨rb,3,none⟩ (.slice va (ks.length+1) vc)):=(h3.mono (fun _ h=>List.mem_cons_of_mem _ h)).trans oS (fun x hx=>Or.inl (by rw[List.mem_singleton.1 hx];exact List.mem_cons_self ..))
 have hnew: ∀k,(Value.slice va (ks.length+1) vc).ownBlock=some k→fv.ownBlock≠some k∧W1.heap.size≤k:=by
  intro k hk
  rcases h4 with h4 | ⟨k',h4,h5⟩
  ·rw[h4] at hk
   exact⟨fun e=>H.apf k e hk,(gk k hk).1⟩
  ·rw[h4] at hk
   injection hk with hk
   exact⟨fun e=>by have:=(gf k e).2;omega,by omega⟩
 refine⟨va,vc,w9,h1,b9.cell 3,b9.frozen 3,⟨?_,hr,b9.set_ 3 _,?_,?_,fun k hk hk2=>(hnew k hk2).1 hk⟩⟩
 ·exact H.only.trans o2 (fun y hy=>by
   rcases List.mem_cons.1 hy with e | e
   ·left;rw[e];simp
   ·right;exact(gk y (by simpa[Option.mem_toList] using e)).1)
 ·refine o2.own H.frow (fun k hk hmm=> ?_)
  rcases List.mem_cons.1 hmm with e | e
  ·have:=(gf k hk).1;omega
  ·exact H.apf k hk (by simpa[Option.mem_toList] using e)
 ·unfold rowU
  exact oS.own h2 (fun k hk hmm=>by have:=(hnew k hk).2;simp at hmm;omega)
end
theorem DParse_z {bs:List Int} (hb: ∀x∈bs,0≤x∧x<256) (a:Int) (k:Nat) (c:Int) (hcl:clsI bs a=c) (hc:c=1∨c=2) (hak:a=8*k) (hk:k+8*c.toNat≤bs.length/8) {N:Nat} {v:Value} (w:World) (h:rowW w N v (wordsFr bs a (8*c.toNat))):
  Calls Tryz.prog 77 #[.int .i64 c,v] w fun e w'=>e= .returned (parseV c (blkN bs a))∧Below w.heap.size w w':=by
 have hbl:blkN bs a=((wordsN bs).drop k).take (8*c.toNat):=by unfold blkN;rw[hcl,show(a/8).toNat=k by omega]
 have hlen:(blkN bs a).length=8*c.toNat:=by rw[hbl,List.length_take,List.length_drop,wordsN_len];omega
 have h':=h
 unfold rowW at h'
 rw[wordsFr_len] at h'
 obtain⟨g,cap,rfl,_,h2,h3,h4⟩:=own_some h' (by rcases hc with rfl | rfl<;>decide)
 have hw:WordsAt w g 0 (blkN bs a):=by
  refine⟨h3,fun i x hi=> ?_⟩
  have hil:=(List.getElem?_eq_some_iff.1 hi).1
  rw[hlen] at hil
  refine h4 i _ ?_
  rw[List.getElem?_map]
  unfold wordsFr
  rw[List.getElem?_map,List.getElem?_range hil]
  simp only[Option.map_some]
  rw[hbl,List.getElem?_take,if_pos hil,List.getElem?_drop] at hi
  obtain⟨y,hy,hy1,_⟩:=wordsN_at hb (k:=k+i) (by omega)
  rw[hi] at hy
  injection hy with hy
  have e:wdI bs (a+8*(i:Int))=wAt bs (k+i):=by
   unfold wdI wAt
   rw[show(a+8*(i:Int)).toNat=8*(k+i) by omega]
  rw[e,hy,hy1]
 cases hbk:blkN bs a with
 | nil=>rw[hbk] at hlen;simp at hlen;omega
 | cons n ns=>
  rw[hbk] at hlen hw
  refine RParse_r c hc n ns (by simpa using hlen) (fun x hx=> ?_) g 0 _ _ rfl h2 w hw
  rw[←hbk,hbl] at hx
  obtain⟨j,hj⟩:=List.mem_iff_getElem?.1 (List.mem_of_mem_drop (List.mem_of_mem_take hx))
  have hjl:=(List.getElem?_eq_some_iff.1 hj).1
  rw[wordsN_len] at hjl
  obtain⟨y,hy,_,hy2⟩:=wordsN_at hb hjl
  rw[hj] at hy
  injection hy with hy
  rw[hy];exact hy2
end Go.Proofs.YtibiekfjbibpbaaGreat
