import Derived.Test.YtibiekfjbibpbaaGreatOpA
set_option maxRecDepth 100000
set_option maxHeartbeats 1000000
set_option linter.unusedVariables false
set_option linter.unusedSimpArgs false
namespace Go.Proofs.YtibiekfjbibpbaaGreat
open Go.RowKit Go.Shelf
attribute [local go_sem] Oper.semAt_some q0h
attribute [local go_sem ↓ high] q0v
theorem x2w {W:World} {N:Nat} {v:Value} {xs:List Int} (h:W.ownsRow N 46 1 v xs.length (xs.map (Value.int .u64))) (hN:N<=W.heap.size) (x:Int) (hm:xs.length<=1000000):
  ∃va vc w9,q0n Tryz.prog #[22,22] 22 #[v,.slice (some ⟨W.heap.size,0,none⟩) 1 1] (W.alloc (.cells #[.int .u64 x] 46))= .ok (.slice va (xs.length+1) vc) w9/\
   w9.ownsRow N 46 1 (.slice va (xs.length+1) vc) (xs.length+1) ((xs++[x]).map (Value.int .u64))/\Only v.ownBlock.toList W w9/\((Value.slice va (xs.length+1) vc).ownBlock=v.ownBlock\/(Value.slice va (xs.length+1) vc).ownBlock=some (W.heap.size+1)):=by
 obtain⟨i0,S,L,O,M⟩:=info_parts v3a;have h5:(W.alloc (.cells #[.int .u64 x] 46)).ownsRow N 46 1 v xs.length (xs.map (Value.int .u64)):=((Only.refl [] W).alloc _).own h (by simp)
 obtain⟨v',w9,r⟩:=q2b (P:=Tryz.prog) (W.alloc (.cells #[.int .u64 x] 46)) N 22 22 46 i0 (.int .u64 0) 1 8 Tryz.underlying22 S L O M rfl (by decide) v xs.length _ h5 (.slice (some ⟨W.heap.size,0,none⟩) 1 1) 1 [.int .u64 x] (Or.inr ⟨W.heap.size,0,1,rfl,fun j u hj=>by
  rw[(Blk.new W 46 #[.int .u64 x]).cell (0+j),AQ];simpa using hj⟩) (by simp) (by
  intro u hu;rw[AF] at hu;subst hu;rfl) (by unfold maxLen;omega) (by omega) (by simp;omega)
 have I:=r.own;obtain⟨va,vc,rfl⟩:=q0q I;refine⟨va,vc,w9,r.run,by rw[Ah];exact I,(((Only.refl [] W).alloc _).mono (fun _ h=>by cases h)).trans (Only.of_grown (f:=v.ownBlock.toList) r.grown (fun y hy=>by simp[hy])) (fun y hy=>Or.inl hy),?_⟩;rcases r.ob with h4|h4;·exact Or.inl h4
 ·exact Or.inr (h4.trans (by simp))
structure OpnL (N:Nat) (w:World) (o m:Nat) (B:MB) (M:MemS) (k r c tg:Nat) (wv:Value):Prop where
 mem:q4f w m B M
 len:M.view.length=k+r
 blk:Blk w o 212 (opnC m (.slice (some ⟨tg,k,none⟩) r c) wv (q3g o) false 0 nilS nilS nilS nilS 0 0)
 cap:r<=c/\c<=9223372036854775807
 todo:∀i,i<k+r->w.cell? ⟨tg,i,none⟩=some (adrV i)
 tl:tg<w.heap.size
 own:w.ownsRow N 46 1 wv k ((M.view.take k).map (Value.int .u64))
 ap:o∉q2g m B M/\tg≠o/\tg∉q2g m B M
 aw:∀b,wv.ownBlock=some b->b≠o/\b≠tg/\b∉q2g m B M
 lo:N<=o/\N<=tg/\ ∀b∈q2g m B M,N<=b
theorem OpnL.past {N o m k r c tg:Nat} {B:MB} {M:MemS} {s1:St4} {wv:Value} {w w1 w9 V:World} {va:Option Addr} {vc:Nat} {X:Int} {hk:k<M.view.length} (H:OpnL N w o m B M k r c tg wv) (h7:q4f w1 m B { M with st:=s1 }) (S:Only [m] w.drew w1) (hX:X=M.view[k]'hk)
  (O:w9.ownsRow N 46 1 (.slice va (k+1) vc) (k+1) ((M.view.take k++[X]).map (Value.int .u64))) (h8:Only wv.ownBlock.toList w1 w9) (h5:(Value.slice va (k+1) vc).ownBlock=wv.ownBlock\/(Value.slice va (k+1) vc).ownBlock=some (w1.drew.heap.size+1)) (U:Only [o] w9 V):
  q4f V m B { M with st:=s1 }/\(∀i,i<k+r->V.cell? ⟨tg,i,none⟩=some (adrV i))/\tg<V.heap.size/\V.ownsRow N 46 1 (.slice va (k+1) vc) (k+1) ((M.view.take (k+1)).map (Value.int .u64))/\
   (∀b,(Value.slice va (k+1) vc).ownBlock=some b->b≠o/\b≠tg/\b∉q2g m B M)/\Only (o::m::wv.ownBlock.toList) w V:=by
 have h4:w.heap.size<=w1.heap.size:=S.size;have h6:=H.mem.foot_lt;have ha:o<w.heap.size:=H.blk.lt
 have Y:∀b,(Value.slice va (k+1) vc).ownBlock=some b->b≠o/\b≠tg/\b∉q2g m B M:=by
  intro b hb;rcases h5 with e|e;·exact H.aw b (e▸hb)
  ·rw[e] at hb;injection hb with hb;have hb:w1.heap.size+1=b:=hb;refine⟨by omega,by have:=H.tl;omega,fun hc=>by have:=h6 b hc;omega⟩
 have h9:q2g m B { M with st:=s1 }=q2g m B M:=rfl;have I:Only (o::wv.ownBlock.toList) w1 V:=(h8.mono (fun x hx=>AW _ hx)).trans (U.mono (fun x hx=>by rw[AF.1 hx];simp)) (fun x hx=>Or.inl hx)
 have L:∀b,b∉wv.ownBlock.toList->b≠o->b∉o::wv.ownBlock.toList:=fun b h1 h2 hc=>by
  rcases AN.1 hc with e|e;·exact h2 e
  ·exact h1 e
 refine⟨?_,?_,?_,?_,Y,?_⟩;·refine h7.only I (fun b hb=> ?_);rw[h9] at hb;exact L b (fun hc=>(H.aw b (by simpa using hc)).2.2 hb) (fun e=>H.ap.1 (e▸hb))
 ·intro i hi;have h1:=H.todo i hi;have h2:=World.cell?_of_block (w:=w.drew) (a:=⟨tg,i,none⟩) (S.block tg H.tl (by simp only[List.mem_singleton];exact fun e=>H.ap.2.2 (by rw[e];simp[q2g])));have h3:=World.cell?_of_block (w:=w1) (a:=⟨tg,i,none⟩) (I.block tg (AL H.tl h4) (L tg (fun hc=>(H.aw tg (by simpa using hc)).2.1 rfl) H.ap.2.1));exact h3.trans (h2.trans h1)
 ·exact AL H.tl (AH h4 I.size)
 ·have h1:=U.own O (fun b hb hc=>(Y b hb).1 (AF.1 hc));have e:M.view.take k++[X]=M.view.take (k+1):=by rw[hX,BF hk]
  rw[e] at h1;exact h1
 ·refine((((Only.refl [m] w).drew).trans S (fun x hx=>Or.inl hx)).mono (fun x hx=>by rw[AF.1 hx];simp)).trans I (fun x hx=>Or.inl ?_);rcases AN.1 hx with e|e;·rw[e];simp
  ·exact AW _ (AW _ e)
theorem OpnL.blw {N o m k r c tg:Nat} {B:MB} {M:MemS} {wv:Value} {w w':World} (H:OpnL N w o m B M k r c tg wv) (ho:Only (o::m::wv.ownBlock.toList) w w'):Below N w w':=by
 refine ho.below (fun x hx=> ?_) (AH H.lo.1 (Bv H.blk.lt));simp only[List.mem_cons] at hx;rcases hx with e|e|e;·rw[e];exact H.lo.1
 ·rw[e];exact H.lo.2.2 m (by simp[q2g])
 ·exact(q3c H.own x (by simpa using e)).1
theorem x3g (N:Nat) (o m:Nat) (B:MB) (M:MemS) (k r c tg:Nat) (wv:Value) (hr:2<=r) (w:World) (h:OpnL N w o m B M k r c tg wv):
  Calls Tryz.prog 110 #[.pointer (some ⟨o,0,none⟩)] w fun e w'=>e= .returned (.tuple #[.bool false,.int .i64 0])/\
   ∃wv' s,s.a=(M.st.a+1)% 18446744073709551616/\s.b=M.st.b/\s.c=M.st.c/\s.d=M.st.d/\OpnL N w' o m B { M with st:=s } (k+1) (r-1) (c-1) tg wv'/\Only (o::m::wv.ownBlock.toList) w w':=by
 have hk:k<M.view.length:=by have:=h.len;omega
 have LZ:=hid (x1y m B M k hk w.drew (h.mem.only ((Only.refl [] w).drew) (by simp)));have hl:=hid (x1y m B M k hk w (h.mem));have y0:w.cell? ⟨o,0,none⟩=some (ptrV m):=h.blk.cell 0;have y1:w.cell? ⟨o,1,none⟩=some (.slice (some ⟨tg,k,none⟩) r c):=h.blk.cell 1;have y2:w.cell? ⟨tg,k,none⟩=some (.int .u64 (8*(k:Int))):=h.todo k (by omega);have z0:w.drew.cell? ⟨o,0,none⟩=some (ptrV m):=y0;have z1:w.drew.cell? ⟨o,1,none⟩=some (.slice (some ⟨tg,k,none⟩) r c):=y1;have z2:w.drew.cell? ⟨tg,k,none⟩=some (.int .u64 (8*(k:Int))):=y2;have i0:(0:Int)< (r:Int):=by omega
 have hm:0<r:=by omega
 have KF:Hid (∀W,Only [m] w.drew W->W.cell? ⟨o,0,none⟩=some (ptrV m)/\W.cell? ⟨o,1,none⟩=some (.slice (some ⟨tg,k,none⟩) r c)/\W.cell? ⟨tg,k,none⟩=some (.int .u64 (8*(k:Int)))):=by intro W hW;have hb:Blk W o 212 _:=hW.blk h.blk.drew (by simp only[List.mem_singleton];exact fun e=>h.ap.1 (by rw[e];simp[q2g]));refine⟨hb.cell 0,hb.cell 1,?_⟩;exact(World.cell?_of_block (w:=w.drew) (a:=⟨tg,k,none⟩) (hW.block tg h.tl (by simp only[List.mem_singleton];exact fun e=>h.ap.2.2 (by rw[e];simp[q2g])))).trans y2
 obtain⟨X,hX⟩:∃X,X=M.view[k]'hk:=⟨_,rfl⟩;rw[<- hX] at LZ hl;have HX:=hid hX;have H:=hid h;clear h hX;go_enter Tryz.func110,Tryz.ntmps110;go_upto_region 1 with fail
 go_region_held3 (fun W=>W.cell? ⟨o,0,none⟩=some (ptrV m)/\W.cell? ⟨o,1,none⟩=some (.slice (some ⟨tg,k,none⟩) r c)/\W.cell? ⟨tg,k,none⟩=some (.int .u64 (8*(k:Int)))) (go_keep)
  ((go_at_call 173;refine LZ.out.mono ?_;rintro e w1 ⟨rfl,s1,a1,a2,a3,a4,hh,ha⟩;obtain⟨x0,x1,x2⟩:=KF.out w1 ha;have hj:=hid hh;have h9:=hid ha;have h3:=hid (⟨a1,a2,a3,a4⟩:_/\_/\_/\_);clear hh ha a1 a2 a3 a4))
 have h2:Blk w1 o 212 (opnC m (.slice (some ⟨tg,k,none⟩) r c) wv (q3g o) false 0 nilS nilS nilS nilS 0 0):=h9.out.blk H.out.blk.drew (by simp only[List.mem_singleton];exact fun e=>H.out.ap.1 (by rw[e];simp[q2g]));have O:w1.ownsRow N 46 1 wv k ((M.view.take k).map (Value.int .u64)):=h9.out.own (((Only.refl [] w).drew).own H.out.own (by simp)) (fun b hb hc=>(H.out.aw b hb).2.2 (by rw[AF.1 hc];simp[q2g]));have Y:(M.view.take k).length=k:=by have:=H.out.len;simp;omega
 have h7:N<=w1.heap.size:=AH H.out.lo.1 (Bv h2.lt);have h8:=H.out.mem.big;obtain⟨va,vc,w9,U,I,hg,L⟩:=x2w (W:=w1.drew) (xs:=M.view.take k) (by rw[Y];exact((Only.refl [] w1).drew).own O (by simp)) h7 X (by have:=H.out.len;rw[Y];omega);rw[Y] at U I L;have h1:Only wv.ownBlock.toList w1 w9:=((Only.refl _ w1).drew).trans hg (fun x hx=>Or.inl hx);have h6:o∉wv.ownBlock.toList:=fun hc=>(H.out.aw o (by simpa using hc)).1 rfl;have S:=h1.blk h2 h6;have h4:Blk w1.drew o 212 _:=h2.drew;have he:Blk (w1.drew.alloc (.cells #[.int .u64 X] 46)) o 212 _:=h4.alloc _;have d1:w1.drew.cell? ⟨o,1,none⟩=some (.slice (some ⟨tg,k,none⟩) r c):=h4.cell 1;have d2:w1.drew.cell? ⟨o,2,none⟩=some wv:=h4.cell 2;have e1:(w1.drew.alloc (.cells #[.int .u64 X] 46)).cell? ⟨o,1,none⟩=some (.slice (some ⟨tg,k,none⟩) r c):=he.cell 1;have e2:(w1.drew.alloc (.cells #[.int .u64 X] 46)).cell? ⟨o,2,none⟩=some wv:=he.cell 2;have f1:(w1.alloc (.cells #[.int .u64 X] 46)).drew.cell? ⟨o,1,none⟩=some (.slice (some ⟨tg,k,none⟩) r c):=e1;have f2:(w1.alloc (.cells #[.int .u64 X] 46)).drew.cell? ⟨o,2,none⟩=some wv:=e2;have g1:w9.cell? ⟨o,1,none⟩=some (.slice (some ⟨tg,k,none⟩) r c):=S.cell 1;have g2:w9.cell? ⟨o,2,none⟩=some wv:=S.cell 2;have hq:=S.frozen 1;have hs:=S.frozen 2;have hf:q0n Tryz.prog #[22,22] 22 #[wv,.slice (some ⟨w1.heap.size,0,none⟩) 1 1] ((w1.alloc (.cells #[.int .u64 X] 46)).drew)= .ok (.slice va (k+1) vc) w9:=U;have i1:(1:Int)<=(r:Int):=by omega
 have i2:(r:Int)<=(c:Int):=by have:=H.out.cap;omega
 have i3: ¬c=1:=by have:=H.out.cap;omega
 have i4:(1:Int)<=(c:Int):=by omega
 have i5:(0:Int)< ((r-1:Nat):Int):=by omega
 have HR:=hid hr;have HF:=hid (⟨S,I,h1,L,h6,h7,Y⟩:_/\_/\_/\_/\_/\_/\_);clear U h2 O Y h7 h8 I hg L h1 h6 S h4 he x0 x1 x2 y0 y1 y2 z0 z1 z2 i0 hm hr;go_upto_region 4 with fail;go_region;go_wp2_with fail;go_ret2;obtain⟨S,I,h1,L,h6,h7,Y⟩:=HF.out;obtain⟨V,hV⟩:∃V,V=(w9.setCell ⟨o,2,none⟩ (.slice va (k+1) vc)).setCell ⟨o,1,none⟩ (.slice (some ⟨tg,k+1,none⟩) (r-1) (c-1)):=⟨_,rfl⟩;have ho:Only [o] w9 V:=by rw[hV];exact((Only.refl _ _).setCell (Or.inl (by simp)) _).setCell (Or.inl (by simp)) _
 have hp:Blk V o 212 (opnC m (.slice (some ⟨tg,k+1,none⟩) (r-1) (c-1)) (.slice va (k+1) vc) (q3g o) false 0 nilS nilS nilS nilS 0 0):=by rw[hV];exact(S.set_ 2 _).set_ 1 _
 obtain⟨q1,q2,q3,q4,q5,q6⟩:=OpnL.past H.out hj.out h9.out HX.out I h1 L ho;have hr:=HR.out;have h5:=H.out;exact⟨rfl,_,s1,h3.out.1,h3.out.2.1,h3.out.2.2.1,h3.out.2.2.2,by rw[<- hV];exact⟨q1,by have:=h5.len;show M.view.length=_;omega,hp,by have:=h5.cap;omega,fun i hi=>q2 i (by omega),q3,q4,h5.ap,q5,h5.lo⟩,by rw[<- hV];exact q6⟩
end Go.Proofs.YtibiekfjbibpbaaGreat
