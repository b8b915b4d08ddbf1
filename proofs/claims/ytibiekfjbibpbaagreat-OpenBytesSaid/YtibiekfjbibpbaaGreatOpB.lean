/- An opening: a word loaded; a step. -/
import Derived.Deep.RegionHeld3
import Derived.BigRegion
import Derived.Test.YtibiekfjbibpbaaGreatOpA
set_option maxRecDepth 100000
set_option maxHeartbeats 1000000
set_option linter.unusedVariables false
set_option linter.unusedSimpArgs false
namespace Go.Proofs.YtibiekfjbibpbaaGreat
open Go.RowKit Go.Shelf
attribute [local go_sem] Oper.semAt_some appM2_run
attribute [local go_sem ↓ high] append_shut2
theorem w64_push {W:World} {N:Nat} {v:Value} {xs:List Int} (h:W.ownsRow N 46 1 v xs.length (xs.map (Value.int .u64))) (hN:N≤W.heap.size) (x:Int) (hm:xs.length≤1000000):
  ∃va vc w9,appRun2 Tryz.prog #[22,22] 22 #[v,.slice (some ⟨W.heap.size,0,none⟩) 1 1] (W.alloc (.cells #[.int .u64 x] 46))= .ok (.slice va (xs.length+1) vc) w9∧
   w9.ownsRow N 46 1 (.slice va (xs.length+1) vc) (xs.length+1) ((xs++[x]).map (Value.int .u64))∧Only v.ownBlock.toList W w9∧((Value.slice va (xs.length+1) vc).ownBlock=v.ownBlock∨(Value.slice va (xs.length+1) vc).ownBlock=some (W.heap.size+1)):=by
 obtain⟨i0,hi0,hz0,hz1,hz2⟩:=info_parts infoCW
 have h5:(W.alloc (.cells #[.int .u64 x] 46)).ownsRow N 46 1 v xs.length (xs.map (Value.int .u64)):=((Only.refl [] W).alloc _).own h (by simp)
 obtain⟨v',w9,r⟩:=run_app (P:=Tryz.prog) (W.alloc (.cells #[.int .u64 x] 46)) N 22 22 46 i0 (.int .u64 0) 1 8 Tryz.underlying22 hi0 hz0 hz1 hz2 rfl (by decide) v xs.length _ h5 (.slice (some ⟨W.heap.size,0,none⟩) 1 1) 1 [.int .u64 x] (Or.inr ⟨W.heap.size,0,1,rfl,fun j u hj=>by
  rw[(Blk.new W 46 #[.int .u64 x]).cell (0+j),Nat.zero_add];simpa using hj⟩) (by simp) (by
  intro u hu
  rw[List.mem_singleton] at hu
  subst hu
  rfl) (by unfold maxLen;omega) (by omega) (by simp;omega)
 have h2':=r.own
 obtain⟨va,vc,rfl⟩:=row_form1 h2'
 refine⟨va,vc,w9,r.run,by rw[List.map_append];exact h2',(((Only.refl [] W).alloc _).mono (fun _ h=>by cases h)).trans (Only.of_grown (f:=v.ownBlock.toList) r.grown (fun y hy=>by simp[hy])) (fun y hy=>Or.inl hy),?_⟩
 rcases r.ob with h4 | h4
 ·exact Or.inl h4
 ·exact Or.inr (h4.trans (by simp))
structure OpnL (N:Nat) (w:World) (o m:Nat) (B:MB) (M:MemS) (k r c tg:Nat) (wv:Value):Prop where
 mem:MemIs w m B M
 len:M.view.length=k+r
 blk:Blk w o 212 (opnC m (.slice (some ⟨tg,k,none⟩) r c) wv (stepV o) false 0 nilS nilS nilS nilS 0 0)
 cap:r≤c∧c≤9223372036854775807
 todo: ∀i,i<k+r→w.cell? ⟨tg,i,none⟩=some (adrV i)
 tl:tg<w.heap.size
 own:w.ownsRow N 46 1 wv k ((M.view.take k).map (Value.int .u64))
 ap:o∉footM m B M∧tg≠o∧tg∉footM m B M
 aw: ∀b,wv.ownBlock=some b→b≠o∧b≠tg∧b∉footM m B M
 lo:N≤o∧N≤tg∧ ∀b∈footM m B M,N≤b
theorem OpnL.past {N o m k r c tg:Nat} {B:MB} {M:MemS} {s1:St4} {wv:Value} {w w1 w9 V:World} {va:Option Addr} {vc:Nat} {X:Int} {hk:k<M.view.length} (H:OpnL N w o m B M k r c tg wv) (hM1:MemIs w1 m B { M with st:=s1 }) (ho1:Only [m] w.drew w1) (hX:X=M.view[k]'hk)
  (hown9:w9.ownsRow N 46 1 (.slice va (k+1) vc) (k+1) ((M.view.take k++[X]).map (Value.int .u64))) (hW9:Only wv.ownBlock.toList w1 w9) (hob:(Value.slice va (k+1) vc).ownBlock=wv.ownBlock∨(Value.slice va (k+1) vc).ownBlock=some (w1.drew.heap.size+1)) (hoV:Only [o] w9 V):
  MemIs V m B { M with st:=s1 }∧(∀i,i<k+r→V.cell? ⟨tg,i,none⟩=some (adrV i))∧tg<V.heap.size∧V.ownsRow N 46 1 (.slice va (k+1) vc) (k+1) ((M.view.take (k+1)).map (Value.int .u64))∧
   (∀b,(Value.slice va (k+1) vc).ownBlock=some b→b≠o∧b≠tg∧b∉footM m B M)∧Only (o::m::wv.ownBlock.toList) w V:=by
 have hsz:w.heap.size≤w1.heap.size:=ho1.size
 have hfl:=H.mem.foot_lt
 have hol:o<w.heap.size:=H.blk.lt
 have haw: ∀b,(Value.slice va (k+1) vc).ownBlock=some b→b≠o∧b≠tg∧b∉footM m B M:=by
  intro b hb
  rcases hob with e | e
  ·exact H.aw b (e▸hb)
  ·rw[e] at hb
   injection hb with hb
   have hb:w1.heap.size+1=b:=hb
   refine⟨by omega,by have:=H.tl;omega,fun hc=>by have:=hfl b hc;omega⟩
 have hfm:footM m B { M with st:=s1 }=footM m B M:=rfl
 have hall:Only (o::wv.ownBlock.toList) w1 V:=(hW9.mono (fun x hx=>List.mem_cons_of_mem _ hx)).trans (hoV.mono (fun x hx=>by rw[List.mem_singleton.1 hx];simp)) (fun x hx=>Or.inl hx)
 have hfar: ∀b,b∉wv.ownBlock.toList→b≠o→b∉o::wv.ownBlock.toList:=fun b h1 h2 hc=>by
  rcases List.mem_cons.1 hc with e | e
  ·exact h2 e
  ·exact h1 e
 refine⟨?_,?_,?_,?_,haw,?_⟩
 ·refine hM1.only hall (fun b hb=> ?_)
  rw[hfm] at hb
  exact hfar b (fun hc=>(H.aw b (by simpa using hc)).2.2 hb) (fun e=>H.ap.1 (e▸hb))
 ·intro i hi
  have h1:=H.todo i hi
  have h2:=World.cell?_of_block (w:=w.drew) (a:=⟨tg,i,none⟩) (ho1.block tg H.tl (by simp only[List.mem_singleton];exact fun e=>H.ap.2.2 (by rw[e];simp[footM])))
  have h3:=World.cell?_of_block (w:=w1) (a:=⟨tg,i,none⟩) (hall.block tg (Nat.lt_of_lt_of_le H.tl hsz) (hfar tg (fun hc=>(H.aw tg (by simpa using hc)).2.1 rfl) H.ap.2.1))
  exact h3.trans (h2.trans h1)
 ·exact Nat.lt_of_lt_of_le H.tl (Nat.le_trans hsz hall.size)
 ·have h1:=hoV.own hown9 (fun b hb hc=>(haw b hb).1 (List.mem_singleton.1 hc))
  have e:M.view.take k++[X]=M.view.take (k+1):=by rw[hX,List.take_succ_eq_append_getElem hk]
  rw[e] at h1
  exact h1
 ·refine((((Only.refl [m] w).drew).trans ho1 (fun x hx=>Or.inl hx)).mono (fun x hx=>by rw[List.mem_singleton.1 hx];simp)).trans hall (fun x hx=>Or.inl ?_)
  rcases List.mem_cons.1 hx with e | e
  ·rw[e];simp
  ·exact List.mem_cons_of_mem _ (List.mem_cons_of_mem _ e)
theorem OpnL.blw {N o m k r c tg:Nat} {B:MB} {M:MemS} {wv:Value} {w w':World} (H:OpnL N w o m B M k r c tg wv) (ho:Only (o::m::wv.ownBlock.toList) w w'):Below N w w':=by
 refine ho.below (fun x hx=> ?_) (Nat.le_trans H.lo.1 (Nat.le_of_lt H.blk.lt))
 simp only[List.mem_cons] at hx
 rcases hx with e | e | e
 ·rw[e];exact H.lo.1
 ·rw[e];exact H.lo.2.2 m (by simp[footM])
 ·exact(own_block H.own x (by simpa using e)).1
theorem OLoad_more (N:Nat) (o m:Nat) (B:MB) (M:MemS) (k r c tg:Nat) (wv:Value) (hr:2≤r) (w:World) (h:OpnL N w o m B M k r c tg wv):
  Calls Tryz.prog 110 #[.pointer (some ⟨o,0,none⟩)] w fun e w'=>e= .returned (.tuple #[.bool false,.int .i64 0])∧
   ∃wv' s,s.a=(M.st.a+1)% 18446744073709551616∧s.b=M.st.b∧s.c=M.st.c∧s.d=M.st.d∧OpnL N w' o m B { M with st:=s } (k+1) (r-1) (c-1) tg wv'∧Only (o::m::wv.ownBlock.toList) w w':=by
 have hk:k<M.view.length:=by have:=h.len;omega
 have LZ:=hid (Load_z m B M k hk w.drew (h.mem.only ((Only.refl [] w).drew) (by simp)))
 have LZ2:=hid (Load_z m B M k hk w (h.mem))
 have y0:w.cell? ⟨o,0,none⟩=some (ptrV m):=h.blk.cell 0
 have y1:w.cell? ⟨o,1,none⟩=some (.slice (some ⟨tg,k,none⟩) r c):=h.blk.cell 1
 have y2:w.cell? ⟨tg,k,none⟩=some (.int .u64 (8*(k:Int))):=h.todo k (by omega)
 have z0:w.drew.cell? ⟨o,0,none⟩=some (ptrV m):=y0
 have z1:w.drew.cell? ⟨o,1,none⟩=some (.slice (some ⟨tg,k,none⟩) r c):=y1
 have z2:w.drew.cell? ⟨tg,k,none⟩=some (.int .u64 (8*(k:Int))):=y2
 have i0:(0:Int)< (r:Int):=by omega
 have i00:0<r:=by omega
 have KF:Hid (∀W,Only [m] w.drew W→W.cell? ⟨o,0,none⟩=some (ptrV m)∧W.cell? ⟨o,1,none⟩=some (.slice (some ⟨tg,k,none⟩) r c)∧W.cell? ⟨tg,k,none⟩=some (.int .u64 (8*(k:Int)))):=by
  intro W hW
  have hb:Blk W o 212 _:=hW.blk h.blk.drew (by simp only[List.mem_singleton];exact fun e=>h.ap.1 (by rw[e];simp[footM]))
  refine⟨hb.cell 0,hb.cell 1,?_⟩
  exact(World.cell?_of_block (w:=w.drew) (a:=⟨tg,k,none⟩) (hW.block tg h.tl (by simp only[List.mem_singleton];exact fun e=>h.ap.2.2 (by rw[e];simp[footM])))).trans y2
 obtain⟨X,hX⟩: ∃X,X=M.view[k]'hk:=⟨_,rfl⟩
 rw[←hX] at LZ LZ2
 have HX:=hid hX
 have H:=hid h
 clear h hX
 go_enter Tryz.func110,Tryz.ntmps110
 go_upto_region 1 with fail
 go_region_held3 (fun W=>W.cell? ⟨o,0,none⟩=some (ptrV m)∧W.cell? ⟨o,1,none⟩=some (.slice (some ⟨tg,k,none⟩) r c)∧W.cell? ⟨tg,k,none⟩=some (.int .u64 (8*(k:Int)))) (go_keep)
  ((go_at_call 173;refine LZ.out.mono ?_;rintro e w1 ⟨rfl,s1,a1,a2,a3,a4,hM1,ho1⟩;obtain⟨x0,x1,x2⟩:=KF.out w1 ho1;have HM1:=hid hM1;have HO1:=hid ho1;have HS1:=hid (⟨a1,a2,a3,a4⟩:_∧_∧_∧_);clear hM1 ho1 a1 a2 a3 a4))
 have hB1:Blk w1 o 212 (opnC m (.slice (some ⟨tg,k,none⟩) r c) wv (stepV o) false 0 nilS nilS nilS nilS 0 0):=HO1.out.blk H.out.blk.drew (by simp only[List.mem_singleton];exact fun e=>H.out.ap.1 (by rw[e];simp[footM]))
 have hown1:w1.ownsRow N 46 1 wv k ((M.view.take k).map (Value.int .u64)):=HO1.out.own (((Only.refl [] w).drew).own H.out.own (by simp)) (fun b hb hc=>(H.out.aw b hb).2.2 (by rw[List.mem_singleton.1 hc];simp[footM]))
 have htk:(M.view.take k).length=k:=by have:=H.out.len;simp;omega
 have hNw:N≤w1.heap.size:=Nat.le_trans H.out.lo.1 (Nat.le_of_lt hB1.lt)
 have hbig:=H.out.mem.big
 obtain⟨va,vc,w9,hrun,hown9,ho9,hob9⟩:=w64_push (W:=w1.drew) (xs:=M.view.take k) (by rw[htk];exact((Only.refl [] w1).drew).own hown1 (by simp)) hNw X (by have:=H.out.len;rw[htk];omega)
 rw[htk] at hrun hown9 hob9
 have hW9:Only wv.ownBlock.toList w1 w9:=((Only.refl _ w1).drew).trans ho9 (fun x hx=>Or.inl hx)
 have hno:o∉wv.ownBlock.toList:=fun hc=>(H.out.aw o (by simpa using hc)).1 rfl
 have hB9:=hW9.blk hB1 hno
 have hBd:Blk w1.drew o 212 _:=hB1.drew
 have hBa:Blk (w1.drew.alloc (.cells #[.int .u64 X] 46)) o 212 _:=hBd.alloc _
 have d1:w1.drew.cell? ⟨o,1,none⟩=some (.slice (some ⟨tg,k,none⟩) r c):=hBd.cell 1
 have d2:w1.drew.cell? ⟨o,2,none⟩=some wv:=hBd.cell 2
 have e1:(w1.drew.alloc (.cells #[.int .u64 X] 46)).cell? ⟨o,1,none⟩=some (.slice (some ⟨tg,k,none⟩) r c):=hBa.cell 1
 have e2:(w1.drew.alloc (.cells #[.int .u64 X] 46)).cell? ⟨o,2,none⟩=some wv:=hBa.cell 2
 have f1:(w1.alloc (.cells #[.int .u64 X] 46)).drew.cell? ⟨o,1,none⟩=some (.slice (some ⟨tg,k,none⟩) r c):=e1
 have f2:(w1.alloc (.cells #[.int .u64 X] 46)).drew.cell? ⟨o,2,none⟩=some wv:=e2
 have g1:w9.cell? ⟨o,1,none⟩=some (.slice (some ⟨tg,k,none⟩) r c):=hB9.cell 1
 have g2:w9.cell? ⟨o,2,none⟩=some wv:=hB9.cell 2
 have g1f:=hB9.frozen 1
 have g2f:=hB9.frozen 2
 have hrun2:appRun2 Tryz.prog #[22,22] 22 #[wv,.slice (some ⟨w1.heap.size,0,none⟩) 1 1] ((w1.alloc (.cells #[.int .u64 X] 46)).drew)= .ok (.slice va (k+1) vc) w9:=hrun
 have i1:(1:Int)≤(r:Int):=by omega
 have i2:(r:Int)≤(c:Int):=by have:=H.out.cap;omega
 have i3: ¬c=1:=by have:=H.out.cap;omega
 have i4:(1:Int)≤(c:Int):=by omega
 have i5:(0:Int)< ((r-1:Nat):Int):=by omega
 have HR:=hid hr
 have HF:=hid (⟨hB9,hown9,hW9,hob9,hno,hNw,htk⟩:_∧_∧_∧_∧_∧_∧_)
 clear hrun hB1 hown1 htk hNw hbig hown9 ho9 hob9 hW9 hno hB9 hBd hBa x0 x1 x2 y0 y1 y2 z0 z1 z2 i0 i00 hr
 go_upto_region 4 with fail
 go_region
 go_wp2_with fail
 go_ret2
 obtain⟨hB9,hown9,hW9,hob9,hno,hNw,htk⟩:=HF.out
 obtain⟨V,hV⟩: ∃V,V=(w9.setCell ⟨o,2,none⟩ (.slice va (k+1) vc)).setCell ⟨o,1,none⟩ (.slice (some ⟨tg,k+1,none⟩) (r-1) (c-1)):=⟨_,rfl⟩
 have hoV:Only [o] w9 V:=by rw[hV];exact((Only.refl _ _).setCell (Or.inl (by simp)) _).setCell (Or.inl (by simp)) _
 have hVB:Blk V o 212 (opnC m (.slice (some ⟨tg,k+1,none⟩) (r-1) (c-1)) (.slice va (k+1) vc) (stepV o) false 0 nilS nilS nilS nilS 0 0):=by rw[hV];exact(hB9.set_ 2 _).set_ 1 _
 obtain⟨q1,q2,q3,q4,q5,q6⟩:=OpnL.past H.out HM1.out HO1.out HX.out hown9 hW9 hob9 hoV
 have hr:=HR.out
 have h5:=H.out
 exact⟨rfl,_,s1,HS1.out.1,HS1.out.2.1,HS1.out.2.2.1,HS1.out.2.2.2,by rw[←hV];exact⟨q1,by have:=h5.len;show M.view.length=_;omega,hVB,by have:=h5.cap;omega,fun i hi=>q2 i (by omega),q3,q4,h5.ap,q5,h5.lo⟩,by rw[←hV];exact q6⟩
end Go.Proofs.YtibiekfjbibpbaaGreat
