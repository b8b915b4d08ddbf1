import Derived.Test.YtibiekfjbibpbaaGreatOpN
set_option maxRecDepth 100000
set_option maxHeartbeats 4000000
set_option linter.unusedVariables false
set_option linter.unusedSimpArgs false
namespace Go.Proofs.YtibiekfjbibpbaaGreat
open Go.RowKit
attribute [local go_sem ↓ high] q7f q0v
attribute [local go_sem] q1x Oper.semAt_some q0h
theorem z7b {N q o m:Nat} {v:Value} {B:MB} {bs:List Int} {w2 w3:World} (hq:bs.length=8*q) (h1:0<q) (hM:q4f w2 m B (q3y (q0b bs))) (S:∀k∈q2g m B (q3y (q0b bs)),N<=k) (hN:N<=w2.heap.size) (ho:w2.heap.size<=o) (hB:Blk w3 o 212 (opnC m v nilS (q3g o) false 0 nilS nilS nilS nilS 0 0))
  (hr:rowU w3 w2.heap.size v (adL (List.range q))) (O:v.ownBlock≠some o) (hb:Below w2.heap.size w2 w3):∃tg c,v= .slice (some ⟨tg,0,none⟩) q c/\OpnL N w3 o m B (memK (q0b bs) 0) 0 q c tg nilS:=by
 have M:(adL (List.range q)).length=q:=by simp[adL]
 have Y:(q0b bs).length=q:=by simp[q0b];omega
 rcases hr.2 with⟨_,h2⟩|⟨tg,c,L,h2,h3,h4,h5,h6,h7,h8⟩;·omega
 rw[M] at h2 h5 h8;have I:=hM.foot_lt;have U:q2g m B (memK (q0b bs) 0)=q2g m B (q3y (q0b bs)):=rfl;refine⟨tg,c,h2,⟨hM.only (Only.of_below hb []) (by simp),by show(q0b bs).length=_;omega,by rw[<- h2];exact hB,⟨h5,by unfold maxLen at h6;omega⟩,fun i hi=> ?_,(AA.1 h4).1,World.ownsRow_nil _ _ _ _,?_,fun b hb=>by simp[nilS,Value.ownBlock] at hb,?_⟩⟩
 ·have h9:(L.toList.take (q*1))[i]?=some (adrV i):=by rw[h8,AM];unfold adL;rw[AM,BM (by omega)];rfl
  rw[AV,if_pos (by omega)] at h9;rw[(show Blk w3 tg 51 L from h4).cell];simpa using h9
 ·refine⟨fun hc=> ?_,fun e=>O (by rw[h2,e];rfl),fun hc=> ?_⟩;·have:=I o hc;omega
  ·have:=I tg hc;omega
 ·exact⟨by omega,by omega,S⟩
theorem z8n (w:World):Calls Tryz.prog 28 #[] w fun e w'=>e= .returned (.bool true)/\Below w.heap.size w w':=by
 have NM:=hid (y0p 2048 (by decide) w);obtain⟨Z,hZ⟩:∃Z:List Int,Z=List.replicate 2048 0:=⟨_,rfl⟩;have h6:∀x∈Z,0<=x/\x<256:=fun x hx=>by rw[hZ,List.mem_replicate] at hx;rw[hx.2];omega
 have h8:Z.length=8*256:=by rw[hZ];simp
 have hw:q0b Z=List.replicate 256 0:=by rw[hZ];exact q9m 2048
 have Y:∀w w' e,q3u Z w e w'->Below w.heap.size w w'/\z3f 0 0 6 [] [] [] [] e w':=fun w w' e h=>by rw[hZ] at h;obtain⟨rfl,h2⟩:=z6u v6c h;exact⟨h2,z1j w'⟩
 have HZ:=hid (⟨h6,h8,hw,Y⟩:_/\_/\_/\_);clear h6 h8 hw Y hZ;go_enter Tryz.func28,Tryz.ntmps28;go_wp2_with fail;refine NM.out.mono ?_;rintro e w2 ⟨m,B,rfl,hM,h5,h7⟩;have M:q4f w2 m B (q3y (q0b Z)):=by rw[HZ.out.2.2.1];exact hM
 have I:∀k∈q2g m B (q3y (q0b Z)),w.heap.size<=k:=by rw[HZ.out.2.2.1];exact fun k hk=>Bv (h7 k hk)
 have ON:=hid (x7q m B 256 ⟨0,0,0,0⟩ (by omega) (by omega) w2 (by have h1:=M.blk;have h2:(q3y (q0b Z)).view.length=256:=(by show(q0b Z).length=256;rw[HZ.out.2.2.1];simp);rw[h2] at h1;exact h1));have HM:=hid (⟨M,h5,I⟩:_/\_/\_);clear hM M h5 h7 I NM;go_wp2_with fail;refine(callsIn_wide.1 ON.out).mono ?_;rintro e w3 ⟨o,v,rfl,ho,h9,h3,O,h4,L⟩;obtain⟨tg,c,rfl,hL⟩:=z7b (N:=w.heap.size) HZ.out.2.1 (by omega) HM.out.1 HM.out.2.2 HM.out.2.1.size ho h3 O h4 L
 have OW:Hid (Calls Tryz.prog 31 #[ptrV m,.pointer (some ⟨o,0,none⟩),.int .i64 257] w3 fun e w'=>e= .returned (.int .i64 256)/\Below w.heap.size w3 w'/\
   ∃tv wv' pv rv fv kv,OpnD w' o m B (memK (q0b Z) 256) Z tv wv' true 6 0 0 [] [] [] [] pv rv fv kv):=hid (x2u w.heap.size o m B 256 c tg 257 Z HZ.out.1 HZ.out.2.1 (by omega) (by omega) (by omega) (by omega) 6 0 0 [] [] [] [] HZ.out.2.2.2 w3 hL)
 have ha:=hid (bx HM.out.2.1 L);clear ho h9 h3 O h4 L hL ON HM;go_wp2_with fail;refine OW.out.mono ?_;rintro e w4 ⟨rfl,S,tv,wv,pv,rv,fv,kv,hD⟩;have SD:=hid (z3t o m B _ _ hD.mem.pos hD.mem.big _ _ _ _ _ _ _ _ _ w4 hD.mem.blk hD.blk);have he:=hid (ha.out.trans S);clear hD OW S;go_wp2_with fail;refine SD.out.mono ?_;rintro e w5 ⟨rfl,U⟩;have hf:=hid (bx he.out U);clear U;go_wp2;go_ret;exact⟨rfl,hf.out⟩
end Go.Proofs.YtibiekfjbibpbaaGreat
