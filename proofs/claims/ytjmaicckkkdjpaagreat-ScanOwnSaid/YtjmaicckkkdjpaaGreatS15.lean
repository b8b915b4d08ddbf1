import Derived.Test.YtjmaicckkkdjpaaGreatS14
/- A step of Last. -/
set_option maxRecDepth 100000
set_option maxHeartbeats 1000000
set_option linter.unusedVariables false
set_option linter.unusedSimpArgs false
namespace Go.Proofs.YtjmaicckkkdjpaaGreat
open Go.RowKit
attribute [local go_sem] Oper.semAt_some
structure MSt (m:Nat) (B:MB) (K:Nat) (w:World) (M:MemS) (w':World) (M':MemS) (ta:MA) (ks:List Nat):Prop where
 mems:Mems w' m B M' K
 foot: ∀k∈footM m B M',k∈footM m B M∨w.heap.size≤k
 abs:absM M'=ta
 st: ∃i j k:Nat,i+j+k≤1∧M'.st.a=(M.st.a+i)% 18446744073709551616∧M'.st.b=M.st.b∧M'.st.c=(M.st.c+j)% 18446744073709551616∧M'.st.d=(M.st.d+k)% 18446744073709551616
 only:Only (ks++footM m B M) w w'
theorem MSt.st64 {m:Nat} {B:MB} {K:Nat} {w w':World} {M M':MemS} {ta:MA} {ks:List Nat} (h:MSt m B K w M w' M' ta ks) (hs:St64 M.st):St64 M'.st:=by
 obtain⟨i,j,k,_,h1,h2,h3,h4⟩:=h.st
 unfold St64 at*
 omega
theorem MSt.of_load {m:Nat} {B:MB} {K:Nat} {w w':World} {M:MemS} {ks:List Nat} (hm:Mems w m B M K) (hs:St64 M.st) (h:Lded w w' m B M (ks++[m])): ∃M',MSt m B K w M w' M' (absM M) ks:=by
 obtain⟨st,a,b,c,d,e,ho⟩:=h
 exact⟨{ M with st:=st },⟨e,hm.few,hm.two⟩,fun k hk=>Or.inl hk,rfl,⟨1,0,0,by omega,a,b,by unfold St64 at hs;show st.c=_;omega,by unfold St64 at hs;show st.d=_;omega⟩,ho.mono (fun x hx=>by
  rcases List.mem_append.1 hx with h | h
  ·exact List.mem_append_left _ h
  ·exact List.mem_append_right _ (by rw[List.mem_singleton.1 h];simp[footM]))⟩
theorem MSt.turn {m:Nat} {B:MB} {K:Nat} {w w1 w':World} {M M':MemS} {ta:MA} {ks js:List Nat} (h:MSt m B K w M w1 M' ta ks) (ho:Only js w1 w') (hj: ∀x∈js,(x∈ks∨w.heap.size≤x)∧x∉footM m B M'):MSt m B K w M w' M' ta ks:=
 ⟨h.mems.only ho (fun k hk hc=>(hj k hc).2 hk),h.foot,h.abs,h.st,h.only.trans ho (fun x hx=>(hj x hx).1.imp (fun h=>List.mem_append_left _ h) id)⟩
theorem MSt.mono {m:Nat} {B:MB} {K:Nat} {w w1:World} {M M':MemS} {ta:MA} {ks js:List Nat} (h:MSt m B K w M w1 M' ta ks) (hj: ∀x∈ks,x∈js):MSt m B K w M w1 M' ta js:=
 ⟨h.mems,h.foot,h.abs,h.st,h.only.mono (fun x hx=>(List.mem_append.1 hx).elim (fun h=>List.mem_append_left _ (hj x h)) (fun h=>List.mem_append_right _ h))⟩
theorem MSt.far {m:Nat} {B:MB} {K:Nat} {w w':World} {M M':MemS} {ta:MA} {ks:List Nat} (h:MSt m B K w M w' M' ta ks) {g:Nat} (hg:g<w.heap.size) (hn:g∉footM m B M):g∉footM m B M':=fun hc=>by
 rcases h.foot g hc with hc | hc
 ·exact hn hc
 ·omega
theorem MSt.of_prim {m:Nat} {B:MB} {K:Nat} {w w':World} {M:MemS} {ta:MA} {j k:Nat} {e:Ending} (hjk:j+k≤1) (hs:St64 M.st) (h:PrimG m B w M K ta j k e w'): ∃M',MSt m B K w M w' M' ta []:=by
 obtain⟨_,M',h1,h2,h3,h4,h5,h6,h7⟩:=h
 exact⟨M',h1,h2.foot,h3,⟨0,j,k,by omega,by unfold St64 at hs;omega,h5,h6,h7⟩,h2.only.mono (fun x hx=>List.mem_append_right _ hx)⟩
def LtP.eff (x:LtP) (A:MA):MA:=if x.over=true then A else match x.lines with
 | a::_=>flushA A x.client.toNat (a/8).toNat
 | []=>fenceA A x.client.toNat
def LtPost (m g r:Nat) (B:MB) (M:MemS) (K:Nat) (x:LtP) (w:World) (e:Ending) (w':World):Prop:=
 e= .returned (.tuple #[.bool x.next.over,.int .i64 0])∧ ∃M',MSt m B K w M w' M' (x.eff (absM M)) [g]∧LtIs w' m g r x.next
theorem LtStep_z (m g r:Nat) (B:MB) (M:MemS) (K:Nat) (hK:K≤1000000000) (x:LtP) (hov:x.over=false) (hc:0≤x.client∧x.client≤64) (hin: ∀a∈x.lines,inV M.view a) (w:World) (hm:Mems w m B M K) (hst:St64 M.st) (hs:LtIs w m g r x) (hg:g∉footM m B M) (hr:r∉footM m B M):
  Calls Tryz.prog 234 #[ptrV g] w (LtPost m g r B M K x w):=by
 obtain⟨p,c,hb,hcap,hcl⟩:=hs.blk
 have SZ:=hid (Size_m m B M.view.length M.st hm.is.pos hm.is.big w hm.is.blk)
 have i1: ¬((8*M.view.length:Nat):Int)=0:=by have:=hm.is.pos;omega
 have b1:(((8*M.view.length:Nat):Int)==0)=false:=by simpa using i1
 have hgl:g<w.heap.size:=hb.lt
 have hrl:=hs.rlt
 have hne:=hs.ne
 have hmd:Mems w.drew m B M K:=hm.only ((Only.refl [] w).drew) (by simp)
 obtain⟨cn,hcn⟩: ∃cn:Nat,x.client=(cn:Int):=⟨x.client.toNat,by omega⟩
 have hc64:cn≤64:=by omega
 obtain⟨xc,xl,xo⟩:=x
 simp only at hov hcn hb hcap hcl hin
 subst hov hcn
 cases xl with
 | nil=>
  have FE:=hid (Fence_g m B M K cn hc64 w.drew hmd hst hK)
  have c0:w.cell? ⟨g,0,none⟩=some (ptrV m):=hb.cell 0
  have c1:w.cell? ⟨g,1,none⟩=some (.int .i64 (cn:Int)):=hb.cell 1
  have c2:w.cell? ⟨g,2,none⟩=some (.slice p 0 c):=hb.cell 2
  have c3:w.cell? ⟨g,3,none⟩=some (.bool true):=hb.cell 3
  have c4:w.cell? ⟨g,4,none⟩=some (.bool false):=hb.cell 4
  have z0:w.drew.cell? ⟨g,0,none⟩=some (ptrV m):=c0
  have z1:w.drew.cell? ⟨g,1,none⟩=some (.int .i64 (cn:Int)):=c1
  have KF:Hid (∀M' W,MSt m B K w.drew M W M' (fenceA (absM M) cn) []→W.cell? ⟨g,0,none⟩=some (ptrV m)∧W.cell? ⟨g,1,none⟩=some (.int .i64 (cn:Int))∧Blk W g 290 (lastC m (cn:Int) (.slice p 0 c) false)):=by
   intro M' W hW
   have h1:Blk W g 290 (lastC m (cn:Int) (.slice p 0 c) false):=hW.only.blk hb.drew (by simpa using hg)
   exact⟨h1.cell 0,h1.cell 1,h1⟩
  have HX:=hid (⟨hg,hgl,hrl,hne,hst⟩:_∧_∧_∧_∧_)
  clear hb hcap hcl hs hm hmd hg hr hgl hrl hne i1 hst hin hc
  go_enter Tryz.func234,Tryz.ntmps234
  go_wp2_with fail
  refine SZ.out.mono ?_
  rintro e w1 ⟨rfl,rfl⟩
  go_upto_region 1 with fail
  go_region_held3 (fun W=>W.cell? ⟨g,0,none⟩=some (ptrV m)∧W.cell? ⟨g,1,none⟩=some (.int .i64 (cn:Int))) (first | go_keep | (constructor<;>(first | assumption | (go_simp;done))))
   (first | (go_at_call 53;refine FE.out.mono ?_;intro e w1 hp;have he:=hp.1;obtain⟨M1,hM1⟩:=MSt.of_prim (j:=0) (k:=1) (by omega) HX.out.2.2.2.2 hp;subst he;obtain⟨x0,x1,hb⟩:=KF.out M1 w1 hM1;have y4:w1.cell? ⟨g,4,none⟩=some (.bool false):=hb.cell 4;have y5:w1.cell? ⟨g,5,none⟩=some (.int .i64 0):=hb.cell 5;have f4:=hb.frozen 4;have f5:=hb.frozen 5;have HM:=hid hM1;have HB:=hid hb;clear hM1 hb hp))
  clear y4 y5 f4 f5 x0 x1 c0 c1 c2 c3 c4 z0 z1 KF FE SZ
  obtain⟨V,hV⟩: ∃V,V=(w1.setCell ⟨g,4,none⟩ (.bool true)).setCell ⟨g,5,none⟩ (.int .i64 0):=⟨_,rfl⟩
  rw[←hV]
  have hB:Blk V g 290 (lastC m (cn:Int) (.slice p 0 c) true):=by rw[hV];exact(HB.out.set_ 4 _).set_ 5 _
  have hO:Only [g] w1 V:=by rw[hV];exact(by repeat(first | exact Only.refl _ _ | (refine Only.drew ?_) | (refine Only.drewN ?_ _) | (refine Only.setCell ?_ (Or.inl (by simp)) _) | (refine Only.alloc ?_ _)))
  have y4:V.cell? ⟨g,4,none⟩=some (.bool true):=hB.cell 4
  have y5:V.cell? ⟨g,5,none⟩=some (.int .i64 0):=hB.cell 5
  have HV:=hid (⟨hB,hO⟩:_∧_)
  clear hB hO hV
  go_upto_region 11 with fail
  go_region
  go_wp2_with fail
  go_ret2
  obtain⟨hB,hO⟩:=HV.out
  have hM:=HM.out
  have hMM:MSt m B K w M w1 M1 (fenceA (absM M) cn) []:=⟨hM.mems,hM.foot,hM.abs,hM.st,⟨hM.only.os,hM.only.tape,hM.only.output,hM.only.size,hM.only.block⟩⟩
  refine⟨rfl,M1,((hMM.mono (js:=[g]) (by simp)).turn (js:=[g]) (hO.drew) (fun x hx=>⟨Or.inl hx,by rw[List.mem_singleton.1 hx];exact hMM.far HX.out.2.1 HX.out.1⟩)),⟨⟨p,c,hB.drew,Nat.zero_le _,fun h=>absurd rfl h⟩,?_,HX.out.2.2.2.1⟩⟩
  exact Nat.lt_of_lt_of_le HX.out.2.2.1 (Nat.le_trans hMM.only.size hO.size)
 | cons a rest=>
  have ha:=hin a (by simp)
  obtain⟨k,hk⟩: ∃k:Nat,a=8*(k:Int):=⟨(a/8).toNat,by unfold inV at ha;omega⟩
  have hk2:k<M.view.length:=by unfold inV at ha;omega
  subst hk
  have FL:=hid (Flush_g m B M K cn k hc64 hk2 w.drew hmd hst hK)
  obtain⟨off,rfl,hrow⟩:=hcl (by simp)
  obtain⟨n,hn⟩: ∃n,n=rest.length:=⟨_,rfl⟩
  have hb':Blk w g 290 (lastC m (cn:Int) (.slice (some ⟨r,off,none⟩) (n+1) c) false):=by rw[hn];exact hb
  have c0:w.cell? ⟨g,0,none⟩=some (ptrV m):=hb'.cell 0
  have c1:w.cell? ⟨g,1,none⟩=some (.int .i64 (cn:Int)):=hb'.cell 1
  have c2:w.cell? ⟨g,2,none⟩=some (.slice (some ⟨r,off,none⟩) (n+1) c):=hb'.cell 2
  have c3:w.cell? ⟨g,3,none⟩=some (.bool true):=hb'.cell 3
  have c4:w.cell? ⟨g,4,none⟩=some (.bool false):=hb'.cell 4
  have c9:w.cell? ⟨r,off,none⟩=some (.int .u64 (8*(k:Int))):=hrow 0 _ rfl
  have z0:w.drew.cell? ⟨g,0,none⟩=some (ptrV m):=c0
  have z1:w.drew.cell? ⟨g,1,none⟩=some (.int .i64 (cn:Int)):=c1
  have z2:w.drew.cell? ⟨g,2,none⟩=some (.slice (some ⟨r,off,none⟩) (n+1) c):=c2
  have z9:w.drew.cell? ⟨r,off,none⟩=some (.int .u64 (8*(k:Int))):=c9
  have i2:(0:Int)< ((n+1:Nat):Int):=by omega
  have KF:Hid (∀M' W,MSt m B K w.drew M W M' (flushA (absM M) cn k) []→W.cell? ⟨g,0,none⟩=some (ptrV m)∧W.cell? ⟨g,1,none⟩=some (.int .i64 (cn:Int))∧W.cell? ⟨g,2,none⟩=some (.slice (some ⟨r,off,none⟩) (n+1) c)∧W.cell? ⟨r,off,none⟩=some (.int .u64 (8*(k:Int)))∧Blk W g 290 (lastC m (cn:Int) (.slice (some ⟨r,off,none⟩) (n+1) c) false)):=by
   intro M' W hW
   have h1:Blk W g 290 (lastC m (cn:Int) (.slice (some ⟨r,off,none⟩) (n+1) c) false):=hW.only.blk hb'.drew (by simpa using hg)
   exact⟨h1.cell 0,h1.cell 1,h1.cell 2,(hW.only.cell (p:=⟨r,off,none⟩) hrl (by simpa using hr)).trans c9,h1⟩
  have HX:=hid (⟨hg,hgl,hrl,hne,hst⟩:_∧_∧_∧_∧_)
  have HR:=hid (⟨hrow,hn,hcap,hr⟩:_∧_∧_∧_)
  have i3:(1:Int)≤((n+1:Nat):Int):=by omega
  have i4:((n+1:Nat):Int)≤(c:Int):=by have:=hcap;simp at this;omega
  clear hb hb' hcap hcl hs hm hmd hg hr hgl hrl hne i1 hst hin hc hrow hn ha hk2
  go_enter Tryz.func234,Tryz.ntmps234
  go_wp2_with fail
  refine SZ.out.mono ?_
  rintro e w1 ⟨rfl,rfl⟩
  go_upto_region 8 with fail
  have hrg:r≠g:=HX.out.2.2.2.1
  have hgr:g≠r:=fun h=>hrg h.symm
  go_region_held3 (fun W=>W.cell? ⟨g,0,none⟩=some (ptrV m)∧W.cell? ⟨g,1,none⟩=some (.int .i64 (cn:Int))∧W.cell? ⟨g,2,none⟩=some (.slice (some ⟨r,off,none⟩) (n+1) c)∧W.cell? ⟨r,off,none⟩=some (.int .u64 (8*(k:Int)))) (first | go_keep | (exact⟨q0,q1,q2,q9⟩))
   (first | (go_at_call 52;refine FL.out.mono ?_;intro e w1 hp;have he:=hp.1;obtain⟨M1,hM1⟩:=MSt.of_prim (j:=1) (k:=0) (by omega) HX.out.2.2.2.2 hp;subst he;obtain⟨x0,x1,x2,x9,hb⟩:=KF.out M1 w1 hM1;have y5:w1.cell? ⟨g,5,none⟩=some (.int .i64 0):=hb.cell 5;have f5:=hb.frozen 5;have q0:(w1.setCell ⟨g,5,none⟩ (.int .i64 0)).cell? ⟨g,0,none⟩=some (ptrV m):=(hb.set_ 5 _).cell 0;have q1:(w1.setCell ⟨g,5,none⟩ (.int .i64 0)).cell? ⟨g,1,none⟩=some (.int .i64 (cn:Int)):=(hb.set_ 5 _).cell 1;have q2:(w1.setCell ⟨g,5,none⟩ (.int .i64 0)).cell? ⟨g,2,none⟩=some (.slice (some ⟨r,off,none⟩) (n+1) c):=(hb.set_ 5 _).cell 2;have q9:(w1.setCell ⟨g,5,none⟩ (.int .i64 0)).cell? ⟨r,off,none⟩=some (.int .u64 (8*(k:Int))):=(World.cell?_setCell_far w1 ⟨g,5,none⟩ ⟨r,off,none⟩ _ hgr).trans x9;have HM:=hid hM1;have HB:=hid hb;clear hM1 hb hp))
  have y2:(w1.setCell ⟨g,5,none⟩ (.int .i64 0)).cell? ⟨g,2,none⟩=some (.slice (some ⟨r,off,none⟩) (n+1) c):=(HB.out.set_ 5 _).cell 2
  have y4:(w1.setCell ⟨g,5,none⟩ (.int .i64 0)).cell? ⟨g,4,none⟩=some (.bool false):=(HB.out.set_ 5 _).cell 4
  have y5':(w1.setCell ⟨g,5,none⟩ (.int .i64 0)).cell? ⟨g,5,none⟩=some (.int .i64 0):=(HB.out.set_ 5 (.int .i64 0)).cell 5
  have f2:=(HB.out.set_ 5 (.int .i64 0)).frozen 2
  have f4:=(HB.out.set_ 5 (.int .i64 0)).frozen 4
  have HBV:=hid (HB.out.set_ 5 (.int .i64 0))
  have HOV:Hid (Only [g] w1 (w1.setCell ⟨g,5,none⟩ (.int .i64 0))):=hid (by repeat(first | exact Only.refl _ _ | (refine Only.drew ?_) | (refine Only.drewN ?_ _) | (refine Only.setCell ?_ (Or.inl (by simp)) _) | (refine Only.alloc ?_ _)))
  obtain⟨V,hV⟩: ∃V,V=w1.setCell ⟨g,5,none⟩ (.int .i64 0):=⟨_,rfl⟩
  rw[←hV] at y2 y4 y5' f2 f4 HBV HOV ⊢
  clear hV x0 x1 x2 x9 y5 f5 c0 c1 c2 c3 c4 c9 z0 z1 z2 z9 KF FL SZ
  have hrow1: ∀i a,rest[i]?=some a→V.cell? ⟨r,off+1+i,none⟩=some (.int .u64 a):=fun i a hi=>by
   rw[show off+1+i=off+(i+1) by omega]
   exact(HOV.out.cell (p:=⟨r,off+(i+1),none⟩) (Nat.lt_of_lt_of_le HX.out.2.2.1 HM.out.only.size) (by simpa using hrg)).trans ((HM.out.only.cell (p:=⟨r,off+(i+1),none⟩) HX.out.2.2.1 (by simpa using HR.out.2.2.2)).trans (HR.out.1 (i+1) a hi))
  have FIN:Hid (∀(V2:World) (p2:Option Addr) (c2:Nat),Blk V2 g 290 (lastC m (cn:Int) (.slice p2 n c2) false)→Only [g] V V2→n≤c2→(0<n→p2=some ⟨r,off+1,none⟩)→LtPost m g r B M K ⟨(cn:Int),8*(k:Int)::rest,false⟩ w (.returned (.tuple #[.bool false,.int .i64 0])) V2):=by
   intro V2 p2 c2 hB hO hc2 hp2
   have hM:=HM.out
   have hMM:MSt m B K w M w1 M1 (flushA (absM M) cn k) []:=⟨hM.mems,hM.foot,hM.abs,hM.st,⟨hM.only.os,hM.only.tape,hM.only.output,hM.only.size,hM.only.block⟩⟩
   have heff:(LtP.eff ⟨(cn:Int),8*(k:Int)::rest,false⟩ (absM M))=flushA (absM M) cn k:=by
    show flushA (absM M) ((cn:Int).toNat) ((8*(k:Int))/8).toNat=_
    rw[show(8*(k:Int))/8=(k:Int) by omega]
    rfl
   have hOO:Only [g] w1 V2:=HOV.out.trans hO (fun y hy=>Or.inl hy)
   have hlt:r<V2.heap.size:=Nat.lt_of_lt_of_le HX.out.2.2.1 (Nat.le_trans hMM.only.size hOO.size)
   refine⟨rfl,M1,by rw[heff];exact(hMM.mono (js:=[g]) (by simp)).turn (js:=[g]) hOO (fun x hx=>⟨Or.inl hx,by rw[List.mem_singleton.1 hx];exact hMM.far HX.out.2.1 HX.out.1⟩),⟨⟨p2,c2,?_,?_,fun hne=>⟨off+1,hp2 ?_,fun i a hi=> ?_⟩⟩,hlt,HX.out.2.2.2.1⟩⟩
   ·show Blk V2 g 290 (lastC m (cn:Int) (.slice p2 rest.length c2) false)
    rw[←HR.out.2.1];exact hB
   ·show rest.length≤c2
    rw[←HR.out.2.1];exact hc2
   ·have h1:rest≠[]:=hne
    rw[HR.out.2.1]
    exact List.length_pos_iff.2 h1
   ·exact(hO.cell (p:=⟨r,off+1+i,none⟩) (Nat.lt_of_lt_of_le HX.out.2.2.1 (Nat.le_trans hMM.only.size HOV.out.size)) (by simpa using hrg)).trans (hrow1 i a hi)
  clear hrow1 hrg hgr
  by_cases hc1:c=1
  ·subst hc1
   have hn0:n=0:=by omega
   subst hn0
   go_upto_region 11 with fail
   go_region
   go_wp2_with fail
   go_ret2
   exact FIN.out _ _ _ (((HBV.out.set_ 2 _).set_ 4 _)) (((Only.refl _ _).setCell (Or.inl (by simp)) _).setCell (Or.inl (by simp)) _).drew (by omega) (fun h=>absurd h (by omega))
  ·go_upto_region 11 with fail
   go_region
   go_wp2_with fail
   go_ret2
   exact FIN.out _ _ _ (((HBV.out.set_ 2 _).set_ 4 _)) (((Only.refl _ _).setCell (Or.inl (by simp)) _).setCell (Or.inl (by simp)) _).drew (by omega) (fun _=>rfl)
end Go.Proofs.YtjmaicckkkdjpaaGreat
