import Derived.Test.YtjmaicckkkdjpaaGreatF13
import Derived.BigRegion
set_option maxRecDepth 100000
set_option maxHeartbeats 2000000
set_option linter.unusedVariables false
set_option linter.unusedSimpArgs false
/- A step of Last. -/
namespace Go.Proofs.YtjmaicckkkdjpaaGreat
open Go.RowKit
attribute [local go_sem] Oper.semAt_some
structure MSt (m:Nat) (B:MB) (K:Nat) (w:World) (M:MemS) (w':World) (M':MemS) (ta:MA) (ks:List Nat):Prop where
 mems:Mems w' m B M' K
 foot: ∀k∈footM m B M',k∈footM m B M∨w.heap.size≤k
 abs:absM M'=ta
 st: ∃i j k:Nat,i+j+k≤1∧M'.st.a=(M.st.a+i)% 18446744073709551616∧M'.st.b=M.st.b∧M'.st.c=(M.st.c+j)% 18446744073709551616∧M'.st.d=(M.st.d+k)% 18446744073709551616
 only:Only (ks++footM m B M) w w'
theorem MSt.st64 {m:Nat} {B:MB} {K:Nat} {w w':World} {M M':MemS} {ta:MA} {ks:List Nat} (h:MSt m B K w M w' M' ta ks) (hs:St64 M.st):St64 M'.st:=by
 obtain⟨i,j,k,_,h1,h2,h3,h4⟩:=h.st
 unfold St64 at*
 omega
theorem MSt.of_load {m:Nat} {B:MB} {K:Nat} {w w':World} {M:MemS} {ks:List Nat} (hm:Mems w m B M K) (hs:St64 M.st) (h:Lded w w' m B M (ks++[m])): ∃M',MSt m B K w M w' M' (absM M) ks:=by
 obtain⟨st,a,b,c,d,e,ho⟩:=h
 exact⟨{ M with st:=st },⟨e,hm.few,hm.two⟩,fun k hk=>Or.inl hk,rfl,⟨1,0,0,by omega,a,b,by unfold St64 at hs;show st.c=_;omega,by unfold St64 at hs;show st.d=_;omega⟩,ho.mono (fun x hx=>by
  rcases List.mem_append.1 hx with h | h
  ·exact List.mem_append_left _ h
  ·exact List.mem_append_right _ (by rw[List.mem_singleton.1 h];simp[footM]))⟩
theorem MSt.turn {m:Nat} {B:MB} {K:Nat} {w w1 w':World} {M M':MemS} {ta:MA} {ks js:List Nat} (h:MSt m B K w M w1 M' ta ks) (ho:Only js w1 w') (hj: ∀x∈js,(x∈ks∨w.heap.size≤x)∧x∉footM m B M'):MSt m B K w M w' M' ta ks:=
 ⟨h.mems.only ho (fun k hk hc=>(hj k hc).2 hk),h.foot,h.abs,h.st,h.only.trans ho (fun x hx=>(hj x hx).1.imp (fun h=>List.mem_append_left _ h) id)⟩
theorem MSt.mono {m:Nat} {B:MB} {K:Nat} {w w1:World} {M M':MemS} {ta:MA} {ks js:List Nat} (h:MSt m B K w M w1 M' ta ks) (hj: ∀x∈ks,x∈js):MSt m B K w M w1 M' ta js:=
 ⟨h.mems,h.foot,h.abs,h.st,h.only.mono (fun x hx=>(List.mem_append.1 hx).elim (fun h=>List.mem_append_left _ (hj x h)) (fun h=>List.mem_append_right _ h))⟩
theorem MSt.far {m:Nat} {B:MB} {K:Nat} {w w':World} {M M':MemS} {ta:MA} {ks:List Nat} (h:MSt m B K w M w' M' ta ks) {g:Nat} (hg:g<w.heap.size) (hn:g∉footM m B M):g∉footM m B M':=fun hc=>by
 rcases h.foot g hc with hc | hc
 ·exact hn hc
 ·omega
theorem MSt.of_prim {m:Nat} {B:MB} {K:Nat} {w w':World} {M:MemS} {ta:MA} {j k:Nat} {e:Ending} (hjk:j+k≤1) (hs:St64 M.st) (h:PrimG m B w M K ta j k e w'): ∃M',MSt m B K w M w' M' ta []:=by
 obtain⟨_,M',h1,h2,h3,h4,h5,h6,h7⟩:=h
 exact⟨M',h1,h2.foot,h3,⟨0,j,k,by omega,by unfold St64 at hs;omega,h5,h6,h7⟩,h2.only.mono (fun x hx=>List.mem_append_right _ hx)⟩
def LtP.eff (x:LtP) (A:MA):MA:=if x.over=true then A else match x.lines with
 | a::_=>flushA A x.client.toNat (a/8).toNat
 | []=>fenceA A x.client.toNat
def LtPost (m g r:Nat) (B:MB) (M:MemS) (K:Nat) (x:LtP) (w:World) (e:Ending) (w':World):Prop:=
 e= .returned (.tuple #[.bool x.next.over,.int .i64 0])∧ ∃M',MSt m B K w M w' M' (x.eff (absM M)) [g]∧LtIs w' m g r x.next
theorem LtStep_z (m g r:Nat) (B:MB) (M:MemS) (K:Nat) (hK:K≤1000000000) (x:LtP) (hov:x.over=false) (hc:0≤x.client∧x.client≤64) (hin: ∀a∈x.lines,inV M.view a) (w:World) (hm:Mems w m B M K) (hst:St64 M.st) (hs:LtIs w m g r x) (hg:g∉footM m B M) (hr:r∉footM m B M):
  Calls Tryz.prog 234 #[ptrV g] w (LtPost m g r B M K x w):=by
 obtain⟨p,c,hb,hcap,hcl⟩:=hs.blk
 have SZ:=hid (Size_m m B M.view.length M.st hm.is.pos hm.is.big w hm.is.blk)
 have i1: ¬((8*M.view.length:Nat):Int)=0:=by have:=hm.is.pos;omega
 have b1:(((8*M.view.length:Nat):Int)==0)=false:=by simpa using i1
 have hgl:g<w.heap.size:=hb.lt
 have hrl:=hs.rlt
 have hne:=hs.ne
 have hmd:Mems w.drew m B M K:=hm.only ((Only.refl [] w).drew) (by simp)
 obtain⟨cn,hcn⟩: ∃cn:Nat,x.client=(cn:Int):=⟨x.client.toNat,by omega⟩
 have hc64:cn≤64:=by omega
 obtain⟨xc,xl,xo⟩:=x
 simp only at hov hcn hb hcap hcl hin
 subst hov hcn
 cases xl with
 | nil=>
  have FE:=hid (Fence_g m B M K cn hc64 w.drew hmd hst hK)
  have c0:w.cell? ⟨g,0,none⟩=some (ptrV m):=hb.cell 0
  have c1:w.cell? ⟨g,1,none⟩=some (.int .i64 (cn:Int)):=hb.cell 1
  have c2:w.cell? ⟨g,2,none⟩=some (.slice p 0 c):=hb.cell 2
  have c3:w.cell? ⟨g,3,none⟩=some (.bool true):=hb.cell 3
  have c4:w.cell? ⟨g,4,none⟩=some (.bool false):=hb.cell 4
  have z0:w.drew.cell? ⟨g,0,none⟩=some (ptrV m):=c0
  have z1:w.drew.cell? ⟨g,1,none⟩=some (.int .i64 (cn:Int)):=c1
  have KF:Hid (∀M' W,MSt m B K w.drew M W M' (fenceA (absM M) cn) []→W.cell? ⟨g,0,none⟩=some (ptrV m)∧W.cell? ⟨g,1,none⟩=some (.int .i64 (cn:Int))∧Blk W g 290 (lastC m (cn:Int) (.slice p 0 c) false)):=by
   intro M' W hW
   have h1:Blk W g 290 (lastC m (cn:Int) (.slice p 0 c) false):=hW.only.blk hb.drew (by simpa using hg)
   exact⟨h1.cell 0,h1.cell 1,h1⟩
  have HX:=hid (⟨hg,hgl,hrl,hne,hst⟩:_∧_∧_∧_∧_)
  clear hb hcap hcl hs hm hmd hg hr hgl hrl hne i1 hst hin hc
  go_enter Tryz.func234,Tryz.ntmps234
  go_wp2_with fail
  refine SZ.out.mono ?_
  rintro e w1 ⟨rfl,rfl⟩
  go_upto_region 1 with fail
  go_region_held3 (fun W=>W.cell? ⟨g,0,none⟩=some (ptrV m)∧W.cell? ⟨g,1,none⟩=some (.int .i64 (cn:Int))) (first | go_keep | (constructor<;>(first | assumption | (go_simp;done))))
   (first | (go_at_call 53;refine FE.out.mono ?_;intro e w1 hp;have he:=hp.1;obtain⟨M1,hM1⟩:=MSt.of_prim (j:=0) (k:=1) (by omega) HX.out.2.2.2.2 hp;subst he;obtain⟨x0,x1,hb⟩:=KF.out M1 w1 hM1;have y4:w1.cell? ⟨g,4,none⟩=some (.bool false):=hb.cell 4;have y5:w1.cell? ⟨g,5,none⟩=some (.int .i64 0):=hb.cell 5;have f4:=hb.frozen 4;have f5:=hb.frozen 5;have HM:=hid hM1;have HB:=hid hb;clear hM1 hb hp))
  clear y4 y5 f4 f5 x0 x1 c0 c1 c2 c3 c4 z0 z1 KF FE SZ
  obtain⟨V,hV⟩: ∃V,V=(w1.setCell ⟨g,4,none⟩ (.bool true)).setCell ⟨g,5,none⟩ (.int .i64 0):=⟨_,rfl⟩
  rw[←hV]
  have hB:Blk V g 290 (lastC m (cn:Int) (.slice p 0 c) true):=by rw[hV];exact(HB.out.set_ 4 _).set_ 5 _
  have hO:Only [g] w1 V:=by rw[hV];exact(by repeat(first | exact Only.refl _ _ | (refine Only.drew ?_) | (refine Only.drewN ?_ _) | (refine Only.setCell ?_ (Or.inl (by simp)) _) | (refine Only.alloc ?_ _)))
  have y4:V.cell? ⟨g,4,none⟩=some (.bool true):=hB.cell 4
  have y5:V.cell? ⟨g,5,none⟩=some (.int .i64 0):=hB.cell 5
  have HV:=hid (⟨hB,hO⟩:_∧_)
  clear hB hO hV
  go_upto_region 11 with fail
  go_region
  go_wp2_with fail
  go_ret2
  obtain⟨hB,hO⟩:=HV.out
  have hM:=HM.out
  have hMM:MSt m B K w M w1 M1 (fenceA (absM M) cn) []:=⟨hM.mems,hM.foot,hM.abs,hM.st,⟨hM.only.os,hM.only.tape,hM.only.output,hM.only.size,hM.only.block⟩⟩
  refine⟨rfl,M1,((hMM.mono (js:=[g]) (by simp)).turn (js:=[g]) (hO.drew) (fun x hx=>⟨Or.inl hx,by rw[List.mem_singleton.1 hx];exact hMM.far HX.out.2.1 HX.out.1⟩)),⟨⟨p,c,hB.drew,Nat.zero_le _,fun h=>absurd rfl h⟩,?_,HX.out.2.2.2.1⟩⟩
  exact Nat.lt_of_lt_of_le HX.out.2.2.1 (Nat.le_trans hMM.only.size hO.size)
 | cons a rest=>
  have ha:=hin a (by simp)
  obtain⟨k,hk⟩: ∃k:Nat,a=8*(k:Int):=⟨(a/8).toNat,by unfold inV at ha;omega⟩
  have hk2:k<M.view.length:=by unfold inV at ha;omega
  subst hk
  have FL:=hid (Flush_g m B M K cn k hc64 hk2 w.drew hmd hst hK)
  obtain⟨off,rfl,hrow⟩:=hcl (by simp)
  obtain⟨n,hn⟩: ∃n,n=rest.length:=⟨_,rfl⟩
  have hb':Blk w g 290 (lastC m (cn:Int) (.slice (some ⟨r,off,none⟩) (n+1) c) false):=by rw[hn];exact hb
  have c0:w.cell? ⟨g,0,none⟩=some (ptrV m):=hb'.cell 0
  have c1:w.cell? ⟨g,1,none⟩=some (.int .i64 (cn:Int)):=hb'.cell 1
  have c2:w.cell? ⟨g,2,none⟩=some (.slice (some ⟨r,off,none⟩) (n+1) c):=hb'.cell 2
  have c3:w.cell? ⟨g,3,none⟩=some (.bool true):=hb'.cell 3
  have c4:w.cell? ⟨g,4,none⟩=some (.bool false):=hb'.cell 4
  have c9:w.cell? ⟨r,off,none⟩=some (.int .u64 (8*(k:Int))):=hrow 0 _ rfl
  have z0:w.drew.cell? ⟨g,0,none⟩=some (ptrV m):=c0
  have z1:w.drew.cell? ⟨g,1,none⟩=some (.int .i64 (cn:Int)):=c1
  have z2:w.drew.cell? ⟨g,2,none⟩=some (.slice (some ⟨r,off,none⟩) (n+1) c):=c2
  have z9:w.drew.cell? ⟨r,off,none⟩=some (.int .u64 (8*(k:Int))):=c9
  have i2:(0:Int)< ((n+1:Nat):Int):=by omega
  have KF:Hid (∀M' W,MSt m B K w.drew M W M' (flushA (absM M) cn k) []→W.cell? ⟨g,0,none⟩=some (ptrV m)∧W.cell? ⟨g,1,none⟩=some (.int .i64 (cn:Int))∧W.cell? ⟨g,2,none⟩=some (.slice (some ⟨r,off,none⟩) (n+1) c)∧W.cell? ⟨r,off,none⟩=some (.int .u64 (8*(k:Int)))∧Blk W g 290 (lastC m (cn:Int) (.slice (some ⟨r,off,none⟩) (n+1) c) false)):=by
   intro M' W hW
   have h1:Blk W g 290 (lastC m (cn:Int) (.slice (some ⟨r,off,none⟩) (n+1) c) false):=hW.only.blk hb'.drew (by simpa using hg)
   exact⟨h1.cell 0,h1.cell 1,h1.cell 2,(hW.only.cell (p:=⟨r,off,none⟩) hrl (by simpa using hr)).trans c9,h1⟩
  have HX:=hid (⟨hg,hgl,hrl,hne,hst⟩:_∧_∧_∧_∧_)
  have HR:=hid (⟨hrow,hn,hcap,hr⟩:_∧_∧_∧_)
  have i3:(1:Int)≤((n+1:Nat):Int):=by omega
  have i4:((n+1:Nat):Int)≤(c:Int):=by have:=hcap;simp at this;omega
  clear hb hb' hcap hcl hs hm hmd hg hr hgl hrl hne i1 hst hin hc hrow hn ha hk2
  go_enter Tryz.func234,Tryz.ntmps234
  go_wp2_with fail
  refine SZ.out.mono ?_
  rintro e w1 ⟨rfl,rfl⟩
  go_upto_region 8 with fail
  have hrg:r≠g:=HX.out.2.2.2.1
  have hgr:g≠r:=fun h=>hrg h.symm
  go_region_held3 (fun W=>W.cell? ⟨g,0,none⟩=some (ptrV m)∧W.cell? ⟨g,1,none⟩=some (.int .i64 (cn:Int))∧W.cell? ⟨g,2,none⟩=some (.slice (some ⟨r,off,none⟩) (n+1) c)∧W.cell? ⟨r,off,none⟩=some (.int .u64 (8*(k:Int)))) (first | go_keep | (exact⟨q0,q1,q2,q9⟩))
   (first | (go_at_call 52;refine FL.out.mono ?_;intro e w1 hp;have he:=hp.1;obtain⟨M1,hM1⟩:=MSt.of_prim (j:=1) (k:=0) (by omega) HX.out.2.2.2.2 hp;subst he;obtain⟨x0,x1,x2,x9,hb⟩:=KF.out M1 w1 hM1;have y5:w1.cell? ⟨g,5,none⟩=some (.int .i64 0):=hb.cell 5;have f5:=hb.frozen 5;have q0:(w1.setCell ⟨g,5,none⟩ (.int .i64 0)).cell? ⟨g,0,none⟩=some (ptrV m):=(hb.set_ 5 _).cell 0;have q1:(w1.setCell ⟨g,5,none⟩ (.int .i64 0)).cell? ⟨g,1,none⟩=some (.int .i64 (cn:Int)):=(hb.set_ 5 _).cell 1;have q2:(w1.setCell ⟨g,5,none⟩ (.int .i64 0)).cell? ⟨g,2,none⟩=some (.slice (some ⟨r,off,none⟩) (n+1) c):=(hb.set_ 5 _).cell 2;have q9:(w1.setCell ⟨g,5,none⟩ (.int .i64 0)).cell? ⟨r,off,none⟩=some (.int .u64 (8*(k:Int))):=(World.cell?_setCell_far w1 ⟨g,5,none⟩ ⟨r,off,none⟩ _ hgr).trans x9;have HM:=hid hM1;have HB:=hid hb;clear hM1 hb hp))
  have y2:(w1.setCell ⟨g,5,none⟩ (.int .i64 0)).cell? ⟨g,2,none⟩=some (.slice (some ⟨r,off,none⟩) (n+1) c):=(HB.out.set_ 5 _).cell 2
  have y4:(w1.setCell ⟨g,5,none⟩ (.int .i64 0)).cell? ⟨g,4,none⟩=some (.bool false):=(HB.out.set_ 5 _).cell 4
  have y5':(w1.setCell ⟨g,5,none⟩ (.int .i64 0)).cell? ⟨g,5,none⟩=some (.int .i64 0):=(HB.out.set_ 5 (.int .i64 0)).cell 5
  have f2:=(HB.out.set_ 5 (.int .i64 0)).frozen 2
  have f4:=(HB.out.set_ 5 (.int .i64 0)).frozen 4
  have HBV:=hid (HB.out.set_ 5 (.int .i64 0))
  have HOV:Hid (Only [g] w1 (w1.setCell ⟨g,5,none⟩ (.int .i64 0))):=hid (by repeat(first | exact Only.refl _ _ | (refine Only.drew ?_) | (refine Only.drewN ?_ _) | (refine Only.setCell ?_ (Or.inl (by simp)) _) | (refine Only.alloc ?_ _)))
  obtain⟨V,hV⟩: ∃V,V=w1.setCell ⟨g,5,none⟩ (.int .i64 0):=⟨_,rfl⟩
  rw[←hV] at y2 y4 y5' f2 f4 HBV HOV ⊢
  clear hV x0 x1 x2 x9 y5 f5 c0 c1 c2 c3 c4 c9 z0 z1 z2 z9 KF FL SZ
  have hrow1: ∀i a,rest[i]?=some a→V.cell? ⟨r,off+1+i,none⟩=some (.int .u64 a):=fun i a hi=>by
   rw[show off+1+i=off+(i+1) by omega]
   exact(HOV.out.cell (p:=⟨r,off+(i+1),none⟩) (Nat.lt_of_lt_of_le HX.out.2.2.1 HM.out.only.size) (by simpa using hrg)).trans ((HM.out.only.cell (p:=⟨r,off+(i+1),none⟩) HX.out.2.2.1 (by simpa using HR.out.2.2.2)).trans (HR.out.1 (i+1) a hi))
  have FIN:Hid (∀(V2:World) (p2:Option Addr) (c2:Nat),Blk V2 g 290 (lastC m (cn:Int) (.slice p2 n c2) false)→Only [g] V V2→n≤c2→(0<n→p2=some ⟨r,off+1,none⟩)→LtPost m g r B M K ⟨(cn:Int),8*(k:Int)::rest,false⟩ w (.returned (.tuple #[.bool false,.int .i64 0])) V2):=by
   intro V2 p2 c2 hB hO hc2 hp2
   have hM:=HM.out
   have hMM:MSt m B K w M w1 M1 (flushA (absM M) cn k) []:=⟨hM.mems,hM.foot,hM.abs,hM.st,⟨hM.only.os,hM.only.tape,hM.only.output,hM.only.size,hM.only.block⟩⟩
   have heff:(LtP.eff ⟨(cn:Int),8*(k:Int)::rest,false⟩ (absM M))=flushA (absM M) cn k:=by
    show flushA (absM M) ((cn:Int).toNat) ((8*(k:Int))/8).toNat=_
    rw[show(8*(k:Int))/8=(k:Int) by omega]
    rfl
   have hOO:Only [g] w1 V2:=HOV.out.trans hO (fun y hy=>Or.inl hy)
   have hlt:r<V2.heap.size:=Nat.lt_of_lt_of_le HX.out.2.2.1 (Nat.le_trans hMM.only.size hOO.size)
   refine⟨rfl,M1,by rw[heff];exact(hMM.mono (js:=[g]) (by simp)).turn (js:=[g]) hOO (fun x hx=>⟨Or.inl hx,by rw[List.mem_singleton.1 hx];exact hMM.far HX.out.2.1 HX.out.1⟩),⟨⟨p2,c2,?_,?_,fun hne=>⟨off+1,hp2 ?_,fun i a hi=> ?_⟩⟩,hlt,HX.out.2.2.2.1⟩⟩
   ·show Blk V2 g 290 (lastC m (cn:Int) (.slice p2 rest.length c2) false)
    rw[←HR.out.2.1];exact hB
   ·show rest.length≤c2
    rw[←HR.out.2.1];exact hc2
   ·have h1:rest≠[]:=hne
    rw[HR.out.2.1]
    exact List.length_pos_iff.2 h1
   ·exact(hO.cell (p:=⟨r,off+1+i,none⟩) (Nat.lt_of_lt_of_le HX.out.2.2.1 (Nat.le_trans hMM.only.size HOV.out.size)) (by simpa using hrg)).trans (hrow1 i a hi)
  clear hrow1 hrg hgr
  by_cases hc1:c=1
  ·subst hc1
   have hn0:n=0:=by omega
   subst hn0
   go_upto_region 11 with fail
   go_region
   go_wp2_with fail
   go_ret2
   exact FIN.out _ _ _ (((HBV.out.set_ 2 _).set_ 4 _)) (((Only.refl _ _).setCell (Or.inl (by simp)) _).setCell (Or.inl (by simp)) _).drew (by omega) (fun h=>absurd h (by omega))
  ·go_upto_region 11 with fail
   go_region
   go_wp2_with fail
   go_ret2
   exact FIN.out _ _ _ (((HBV.out.set_ 2 _).set_ 4 _)) (((Only.refl _ _).setCell (Or.inl (by simp)) _).setCell (Or.inl (by simp)) _).drew (by omega) (fun _=>rfl)
end Go.Proofs.YtjmaicckkkdjpaaGreat
/- A value that is read: its object, its steps. -/
namespace Go.Proofs.YtjmaicckkkdjpaaGreat
open Go.RowKit Go.Shelf
attribute [local go_sem] Oper.semAt_some appM2_run run_store_fnG neFnE neFnEG
attribute [local go_sem ↓ high] append_shut2
theorem w64_pushg {W:World} {N:Nat} {v:Value} {xs:List Int} (h:W.ownsRow N 25 1 v xs.length (xs.map (Value.int .u64))) (hN:N≤W.heap.size) (x:Int) (hm:xs.length≤1000000):
  ∃va vc w9,appRun2 Tryz.prog #[22,22] 22 #[v,.slice (some ⟨W.heap.size,0,none⟩) 1 1] (W.alloc (.cells #[.int .u64 x] 25))= .ok (.slice va (xs.length+1) vc) w9∧
   w9.ownsRow N 25 1 (.slice va (xs.length+1) vc) (xs.length+1) ((xs++[x]).map (Value.int .u64))∧Only v.ownBlock.toList W w9∧((Value.slice va (xs.length+1) vc).ownBlock=v.ownBlock∨(Value.slice va (xs.length+1) vc).ownBlock=some (W.heap.size+1)):=by
 obtain⟨i0,hi0,hz0,hz1,hz2⟩:=info_parts infoCW
 have h5:(W.alloc (.cells #[.int .u64 x] 25)).ownsRow N 25 1 v xs.length (xs.map (Value.int .u64)):=((Only.refl [] W).alloc _).own h (by simp)
 obtain⟨v',w9,r⟩:=run_app (P:=Tryz.prog) (W.alloc (.cells #[.int .u64 x] 25)) N 22 22 25 i0 (.int .u64 0) 1 8 Tryz.underlying22 hi0 hz0 hz1 hz2 rfl (by decide) v xs.length _ h5 (.slice (some ⟨W.heap.size,0,none⟩) 1 1) 1 [.int .u64 x] (Or.inr ⟨W.heap.size,0,1,rfl,fun j u hj=>by
  rw[(Blk.new W 25 #[.int .u64 x]).cell (0+j),Nat.zero_add];simpa using hj⟩) (by simp) (by
  intro u hu
  rw[List.mem_singleton] at hu
  subst hu
  rfl) (by unfold maxLen;omega) (by omega) (by simp;omega)
 have h2':=r.own
 obtain⟨va,vc,rfl⟩:=row_form1 h2'
 refine⟨va,vc,w9,r.run,by rw[List.map_append];exact h2',(((Only.refl [] W).alloc _).mono (fun _ h=>by cases h)).trans (Only.of_grown (f:=v.ownBlock.toList) r.grown (fun y hy=>by simp[hy])) (fun y hy=>Or.inl hy),?_⟩
 rcases r.ob with h4 | h4
 ·exact Or.inl h4
 ·exact Or.inr (h4.trans (by simp))
def readC (m g:Nat) (x:RdP) (lv:Value):Array Value:= #[ptrV m,.int .u64 x.base,fnV 161 g,lv,.string x.s,.bool x.done,.int .i64 x.bad]
structure RdIs (w:World) (N m g:Nat) (x:RdP) (lv:Value):Prop where
 blk:Blk w g 271 (readC m g x lv)
 own:w.ownsRow N 25 1 lv x.l.length (x.l.map fun n:Nat=>Value.int .u64 (n:Int))
 ne:lv.ownBlock≠some g
theorem RdNew_z (m:Nat) (a:Int) (w:World):Calls Tryz.prog 124 #[ptrV m,.int .u64 a] w fun e w'=> ∃g,e= .returned (ptrV g)∧w.heap.size≤g∧RdIs w' w.heap.size m g (rdNew a) (.slice none 0 0)∧Below w.heap.size w w':=by
 go_enter Tryz.func124,Tryz.ntmps124
 go_wp2_with fail
 go_ret
 refine⟨_,rfl,Nat.le_refl _,⟨Blk.new w 271 (readC m w.heap.size (rdNew a) (.slice none 0 0)),World.ownsRow_nil _ _ _ _,by simp[Value.ownBlock]⟩,by(repeat(first | exact Below.refl _ _ | (refine ba ?_ _) | (refine Below.drew ?_) | (refine below_drewN ?_ _) | (refine Below.alloc ?_ (by first | omega | (simp;done) | (simp;omega)) _) | (refine Below.setCell ?_ (by first | omega | (simp;done) | (simp;omega)) _) | (refine bx ?_ (by assumption)) | (refine Below.trans ?_ (Below.mono (by assumption) (by first | omega | (simp;done) | (simp;omega))))))⟩
theorem wdV_u {v:List Int} (h: ∀y∈v,U64 y) (a:Int):U64 (wdV v a):=by
 unfold wdV
 rw[List.getD_eq_getElem?_getD]
 cases hc:v[(a/8).toNat]? with
 | none=>exact⟨by simp,by simp⟩
 | some y=>exact h y (List.mem_of_getElem? hc)
structure RdOK (v:List Int) (x:RdP):Prop where
 live:x.done=false
 bad:x.bad=0
 inv:inV v x.adr
 lo:0≤x.base∧x.base≤1099511627776
 few:x.l.length≤16
 len:x.l≠[]→x.l.length<wordsV (x.l.headD 0)
 vu: ∀y∈v,U64 y
 lu: ∀n∈x.l,n<18446744073709551616
def RdPart (N m g:Nat) (B:MB) (M:MemS) (lv:Value) (y:RdP) (w:World) (e:Ending) (w':World):Prop:=
 e= .returned (.tuple #[.bool y.done,.int .i64 y.bad])∧Lded w w' m B M (g::lv.ownBlock.toList++[m])∧ ∃lv',RdIs w' N m g { y with done:=false,bad:=0 } lv'∧ ∀k,lv'.ownBlock=some k→lv.ownBlock=some k∨w.heap.size≤k
theorem RdLoad_z (N m g:Nat) (B:MB) (M:MemS) (x:RdP) (lv:Value) (hok:RdOK M.view x) (w:World) (hN:N≤w.heap.size) (hm:MemIs w m B M) (hs:RdIs w N m g x lv) (ha:g∉footM m B M) (hr: ∀k,lv.ownBlock=some k→k∉footM m B M):
  Calls Tryz.prog 161 #[ptrV g] w (RdPart N m g B M lv (x.got (wdV M.view x.adr).toNat) w):=by
 obtain⟨q1,q2,q3,q4,q5,q6,q7,q8⟩:=hok
 obtain⟨hb,hown,hne⟩:=hs
 obtain⟨k,hk⟩: ∃k,k=x.l.length:=⟨_,rfl⟩
 rw[←hk] at hown q5
 obtain⟨p,c,rfl⟩:=row_form1 hown
 have hadr:x.adr=x.base+8*(k:Int):=by unfold RdP.adr;rw[←hk]
 have hu:U64 (wdV M.view x.adr):=wdV_u q7 x.adr
 obtain⟨X,hX⟩: ∃X:Nat,X=(wdV M.view x.adr).toNat:=⟨_,rfl⟩
 have hXe:wdV M.view x.adr=(X:Int):=by unfold U64 at hu;omega
 have hX64:X<18446744073709551616:=by unfold U64 at hu;omega
 have LZ:=Load_a m B M _ q3 w.drew (hm.only ((Only.refl [] w).drew) (by simp))
 rw[hXe,hadr] at LZ
 have LZ:=hid LZ
 rw[←hX]
 have z0:w.drew.cell? ⟨g,0,none⟩=some (ptrV m):=hb.cell 0
 have z1:w.drew.cell? ⟨g,1,none⟩=some (.int .u64 x.base):=hb.cell 1
 have z3:w.drew.cell? ⟨g,3,none⟩=some (.slice p k c):=hb.cell 3
 have hgm:g≠m:=fun e=>ha (by rw[e];simp[footM])
 have KF:Hid (∀W,Lded w.drew W m B M [m]→W.cell? ⟨g,0,none⟩=some (ptrV m)∧W.cell? ⟨g,1,none⟩=some (.int .u64 x.base)∧W.cell? ⟨g,3,none⟩=some (.slice p k c)∧Blk W g 271 (readC m g x (.slice p k c))∧N≤W.heap.size∧W.ownsRow N 25 1 (.slice p k c) k (x.l.map fun n:Nat=>Value.int .u64 (n:Int))):=by
  intro W hW
  obtain⟨_,_,_,_,_,_,ho⟩:=hW
  have h1:Blk W g 271 (readC m g x (.slice p k c)):=ho.blk hb.drew (by simpa using hgm)
  exact⟨h1.cell 0,h1.cell 1,h1.cell 3,h1,Nat.le_trans hN ho.size,ho.own (((Only.refl [] w).drew).own hown (by simp)) (fun j hj hc=>hr j hj (by rw[List.mem_singleton.1 hc];simp[footM]))⟩
 have HX:=hid (⟨q1,q2,hk,ha,hne,hr,hX64,q8,q6⟩:_∧_∧_∧_∧_∧_∧_∧_∧_)
 have i0:0≤x.base:=q4.1
 have i1:x.base≤1099511627776:=q4.2
 have i2:(k:Int)≤16:=by omega
 have e1:IntKind.i64.wrap (8*(k:Int))=8*(k:Int):=by rw[IntKind.wrap_i64];omega
 have e2:IntKind.u64.wrap (8*(k:Int))=8*(k:Int):=by rw[IntKind.wrap_u64];omega
 have e3:IntKind.u64.wrap (x.base+8*(k:Int))=x.base+8*(k:Int):=by rw[IntKind.wrap_u64];omega
 clear hb hown hne hm ha hr hgm hX hXe hX64 hu hadr q1 q2 q3 q4 q6 q7 q8 hk
 go_enter Tryz.func161,Tryz.ntmps161
 go_upto_region 1 with fail
 go_region_held3 (fun W=>W.cell? ⟨g,0,none⟩=some (ptrV m)∧W.cell? ⟨g,1,none⟩=some (.int .u64 x.base)∧W.cell? ⟨g,3,none⟩=some (.slice p k c)) (go_keep)
  ((go_at_call 152;refine LZ.out.mono ?_;rintro e w1 ⟨rfl,hL⟩;obtain⟨x0,x1,x3,hb,hNw,hown⟩:=KF.out w1 hL;have HL:=hid hL;have HB:=hid (⟨hb,hNw,hown⟩:_∧_∧_);clear hL hb hown hNw))
 clear x0 x1 x3 z0 z1 z3 e1 e2 e3 LZ KF
 obtain⟨hB1,hNw,hown1⟩:=HB.out
 have hg3: ∃xs:List Int,x.l.map (fun n:Nat=>Value.int .u64 (n:Int))=xs.map (Value.int .u64)∧xs=x.l.map fun n:Nat=>(n:Int):=⟨_,by rw[List.map_map];rfl,rfl⟩
 obtain⟨xs,hxs,hxs2⟩:=hg3
 rw[hxs] at hown1
 have hxl:xs.length=k:=by rw[hxs2,List.length_map];exact HX.out.2.2.1.symm
 obtain⟨va,vc,w9,hrun,hown9,ho9,hob9⟩:=w64_pushg (W:=w1) (xs:=xs) (by rw[hxl];exact hown1) hNw (X:Int) (by omega)
 rw[hxl] at hrun hown9
 have hno:g∉ (Value.slice p k c).ownBlock.toList:=fun hc=>HX.out.2.2.2.2.1 (by simpa using hc)
 have hB9:=ho9.blk hB1 hno
 have d3:w1.cell? ⟨g,3,none⟩=some (.slice p k c):=hB1.cell 3
 have g3:w9.cell? ⟨g,3,none⟩=some (.slice p k c):=hB9.cell 3
 have g3f:=hB9.frozen 3
 have hrun2:appRun2 Tryz.prog #[22,22] 22 #[.slice p k c,.slice (some ⟨w1.heap.size,0,none⟩) 1 1] (w1.alloc (.cells #[.int .u64 (X:Int)] 25))= .ok (.slice va (k+1) vc) w9:=hrun
 obtain⟨rg,cap,hv9,hNr,hcap,hrl,hcl⟩:=own_some hown9 (Nat.succ_pos k)
 injection hv9 with ev _ ec
 subst ev ec
 obtain⟨V,hV⟩: ∃V,V=w9.setCell ⟨g,3,none⟩ (.slice (some ⟨rg,0,none⟩) (k+1) vc):=⟨_,rfl⟩
 have hBV:Blk V g 271 (readC m g x (.slice (some ⟨rg,0,none⟩) (k+1) vc)):=by rw[hV];exact hB9.set_ 3 _
 have hne9:rg≠g:=by
  intro e
  rcases hob9 with h | h
  ·rw[←h] at hno;exact hno (by simp[Value.ownBlock,e])
  ·have h2:some rg=some (w1.heap.size+1):=h
   injection h2 with h2
   have:=hB1.lt
   omega
 have hOV:Only [g] w9 V:=by rw[hV];exact(by repeat(first | exact Only.refl _ _ | (refine Only.drew ?_) | (refine Only.drewN ?_ _) | (refine Only.setCell ?_ (Or.inl (by simp)) _) | (refine Only.alloc ?_ _)))
 have hownV:V.ownsRow N 25 1 (.slice (some ⟨rg,0,none⟩) (k+1) vc) (k+1) ((xs++[(X:Int)]).map (Value.int .u64)):=hOV.own hown9 (fun j hj hc=>by
  have h2:some rg=some j:=hj
  injection h2 with h2
  exact hne9 (h2.trans (List.mem_singleton.1 hc)))
 have HV:=hid (⟨hBV,hownV,hOV,ho9,hob9,hne9,hno,hxs2⟩:_∧_∧_∧_∧_∧_∧_∧_)
 obtain⟨n0,hn0⟩: ∃n0,n0=(x.l++[X]).headD 0:=⟨_,rfl⟩
 have hcV: ∀(i n:Nat),(x.l++[X])[i]?=some n→V.cell? ⟨rg,i,none⟩=some (.int .u64 (n:Int)):=fun i n hi=>by
  refine(hOV.cell (p:=⟨rg,i,none⟩) hrl (by simpa using hne9)).trans ?_
  have:=hcl i (.int .u64 (n:Int)) (by
   rw[List.getElem?_map,hxs2]
   have e:(x.l.map fun n:Nat=>(n:Int))++[(X:Int)]=(x.l++[X]).map fun n:Nat=>(n:Int):=by rw[List.map_append];rfl
   rw[e,List.getElem?_map,hi];rfl)
  rw[Nat.zero_add] at this
  exact this
 have hc0:V.cell? ⟨rg,0,none⟩=some (.int .u64 (n0:Int)):=hcV 0 n0 (by
  rw[hn0]
  cases x.l with
  | nil=>rfl
  | cons y l=>rfl)
 have y3:V.cell? ⟨g,3,none⟩=some (.slice (some ⟨rg,0,none⟩) (k+1) vc):=hBV.cell 3
 have y4:V.cell? ⟨g,4,none⟩=some (.string x.s):=hBV.cell 4
 have f4:=hBV.frozen 4
 have HCV:=hid (⟨hcV,hn0,hrl,hcap⟩:_∧_∧_∧_)
 have hn64:n0<18446744073709551616:=by
  rw[hn0]
  cases hc:x.l with
  | nil=>exact HX.out.2.2.2.2.2.2.1
  | cons y l=>exact HX.out.2.2.2.2.2.2.2.1 y (by rw[hc];simp)
 have hLV:Lded w V m B M (g::(Value.slice p k c).ownBlock.toList++[m]):=by
  refine(HL.out.drew.mono (g:=g::(Value.slice p k c).ownBlock.toList++[m]) (by simp)).only (g:=g::(Value.slice p k c).ownBlock.toList) ((ho9.mono (fun y hy=>List.mem_cons_of_mem _ hy)).trans hOV (fun y hy=>Or.inl (by rw[List.mem_singleton.1 hy];simp))) (fun y hy=> ?_)
  rcases List.mem_cons.1 hy with rfl | hy
  ·exact⟨Or.inl (by simp),HX.out.2.2.2.1⟩
  ·exact⟨Or.inl (by rw[List.cons_append];exact List.mem_cons_of_mem _ (List.mem_append_left _ hy)),HX.out.2.2.2.2.2.1 y (by simpa using hy)⟩
 have hw1s:w.heap.size≤w1.heap.size:=by obtain⟨_,_,_,_,_,_,ho⟩:=HL.out;exact ho.size
 have FIN:Hid (∀(V2:World) (s':ByteArray) (d:Bool) (bb:Int),Only [g] V V2→Blk V2 g 271 (readC m g { x with l:=x.l++[X],s:=s' } (.slice (some ⟨rg,0,none⟩) (k+1) vc))→RdPart N m g B M (.slice p k c) { x with l:=x.l++[X],s:=s',done:=d,bad:=bb } w (.returned (.tuple #[.bool d,.int .i64 bb])) V2):=by
  intro V2 s' d bb hO hB
  have h1:(xs++[(X:Int)]).map (Value.int .u64)=(x.l++[X]).map fun n:Nat=>Value.int .u64 (n:Int):=by rw[hxs2,List.map_append,List.map_append,List.map_map];rfl
  have h2:(x.l++[X]).length=k+1:=by rw[List.length_append,HX.out.2.2.1];rfl
  refine⟨rfl,hLV.only hO (fun y hy=>⟨Or.inl (by rw[List.mem_singleton.1 hy];simp),by rw[List.mem_singleton.1 hy];exact HX.out.2.2.2.1⟩),.slice (some ⟨rg,0,none⟩) (k+1) vc,⟨?_,?_,fun hc=>hne9 (by have h9:some rg=some g:=hc;exact Option.some.inj h9)⟩,fun j hj=> ?_⟩
  ·have e:({ x with l:=x.l++[X],s:=s',done:=false,bad:=0 }:RdP)={ x with l:=x.l++[X],s:=s' }:=by rw[show({ x with l:=x.l++[X],s:=s',done:=false,bad:=0 }:RdP)={ x with l:=x.l++[X],s:=s',done:=x.done,bad:=x.bad } by rw[HX.out.1,HX.out.2.1]]
   show Blk V2 g 271 (readC m g { x with l:=x.l++[X],s:=s',done:=false,bad:=0 } (.slice (some ⟨rg,0,none⟩) (k+1) vc))
   rw[e];exact hB
  ·show V2.ownsRow N 25 1 _ (x.l++[X]).length ((x.l++[X]).map fun n:Nat=>Value.int .u64 (n:Int))
   rw[h2,←h1]
   exact hO.own hownV (fun i hi hc=>hne9 (by have h9:some rg=some i:=hi;exact(Option.some.inj h9).trans (List.mem_singleton.1 hc)))
  ·rcases hob9 with h | h
   ·exact Or.inl (h.symm.trans hj)
   ·right
    have h3:some j=some (w1.heap.size+1):=hj.symm.trans h
    injection h3 with h3
    omega
 rw[hV] at y3 y4 hc0 f4
 have i5:(0:Int)< ((k+1:Nat):Int):=by omega
 clear hBV hownV hOV ho9 hob9 hne9 hno hxs2 hxs hxl hrun hown9 hown1 hB1 hNw hB9 hcl hrl hcap hcV hn0
 have hgot:=HCV.out.2.1
 obtain⟨Y,hY⟩: ∃Y,Y=x.got X:=⟨_,rfl⟩
 have hYv:=hY
 unfold RdP.got at hYv
 rw[←hgot] at hYv
 rw[hV] at FIN HV HCV
 clear hV hgot
 by_cases hbig:120<n0
 ·have b1:decide ((n0:Int)>120)=true:=decide_eq_true (by omega)
  rw[if_pos hbig] at hYv
  have HYV:=hid (hY.symm.trans hYv)
  clear hbig hYv hY
  go_wp2_with fail
  go_ret2
  rw[HYV.out]
  exact FIN.out _ x.s true 11 (Only.refl _ _) HV.out.1
 ·have b1:decide ((n0:Int)>120)=false:=decide_eq_false (by omega)
  rw[if_neg hbig] at hYv
  have hW:=hid (VWords_z n0 (by omega))
  have e1:IntKind.i64.wrap (n0:Int)=(n0:Int):=by rw[IntKind.wrap_i64];omega
  by_cases hmore:x.l.length+1<wordsV n0
  ·rw[if_pos hmore] at hYv
   have HYV:=hid (hY.symm.trans hYv)
   have b2:((k+1:Nat):Int)< ((wordsV n0:Nat):Int):=by have:=HX.out.2.2.1;omega
   clear hbig hYv hY hmore
   go_upto_region 7 with fail
   go_quiet ((go_at_call 184;exact Calls.quiet_of_same ((hW.out _).mono fun _ _ h=>⟨h.1,h.2.symm⟩)))
   go_wp2_with fail
   go_ret2
   rw[HYV.out]
   have h:=FIN.out ((w9.setCell ⟨g,3,none⟩ (.slice (some ⟨rg,0,none⟩) (k+1) vc)).drewN nq) x.s false 0 ((Only.refl _ _).drewN nq) (HV.out.1.drewN nq)
   have e:({ x with l:=x.l++[X],s:=x.s,done:=false,bad:=0 }:RdP)={ x with l:=x.l++[X] }:=by rw[show({ x with l:=x.l++[X],s:=x.s,done:=false,bad:=0 }:RdP)={ x with l:=x.l++[X],done:=x.done,bad:=x.bad } by rw[HX.out.1,HX.out.2.1]]
   rw[e] at h
   exact h
  ·rw[if_neg hmore] at hYv
   have b2: ¬((k+1:Nat):Int)< ((wordsV n0:Nat):Int):=by have:=HX.out.2.2.1;omega
   obtain⟨ns,hns⟩: ∃ns,ns=(x.l++[X]).tail:=⟨_,rfl⟩
   rw[←hns] at hYv
   have hcons:x.l++[X]=n0::ns:=by
    rw[hns,HCV.out.2.1]
    cases x.l with
    | nil=>rfl
    | cons y l=>rfl
   have hlen:ns.length+1=k+1:=by
    have h1:=congrArg List.length hcons
    rw[List.length_append,←HX.out.2.2.1] at h1
    exact h1.symm
   have hkw:k<wordsV n0:=by
    by_cases hk0:x.l=[]
    ·have:=HX.out.2.2.1
     rw[hk0] at this
     rw[this];unfold wordsV;simp only[List.length_nil];omega
    ·have h1:=HX.out.2.2.2.2.2.2.2.2 hk0
     have h2:x.l.headD 0=n0:=by
      rw[HCV.out.2.1]
      cases hc:x.l with
      | nil=>exact absurd hc hk0
      | cons y l=>rfl
     rw[h2,←HX.out.2.2.1] at h1
     exact h1
   have hnl:ns.length=(n0+7)/8:=by
    have h1: ¬k+1<wordsV n0:=by have:=HX.out.2.2.1;omega
    unfold wordsV at h1 hkw
    omega
   have h64: ∀y∈ns,y<18446744073709551616:=fun y hy=>by
    have h1:y∈x.l++[X]:=by rw[hcons];exact List.mem_cons_of_mem _ hy
    rcases List.mem_append.1 h1 with h | h
    ·exact HX.out.2.2.2.2.2.2.2.1 y h
    ·rw[List.mem_singleton.1 h];exact HX.out.2.2.2.2.2.2.1
   have UP:=fun(W:World) (hb:Below (w9.setCell ⟨g,3,none⟩ (.slice (some ⟨rg,0,none⟩) (k+1) vc)).heap.size (w9.setCell ⟨g,3,none⟩ (.slice (some ⟨rg,0,none⟩) (k+1) vc)) W)=>hid (VUnpack_z n0 ns (by omega) hnl h64 rg 0 (k+1) vc (by omega) HCV.out.2.2.2 W (by
    refine⟨Nat.lt_of_lt_of_le HCV.out.2.2.1 (Nat.le_trans HV.out.2.2.1.size hb.size),fun i y hi=> ?_⟩
    rw[Nat.zero_add]
    have h1:=HCV.out.1 i y (by rw[hcons];exact hi)
    exact(hb.cell (p:=⟨rg,i,none⟩) (World.block_lt_of_cell? _ _ h1)).trans h1))
   have HYV:=hid (hY.symm.trans hYv)
   have hte:=textV_eq n0 ns
   obtain⟨tx,htx⟩: ∃tx,tx=txtE n0 ns:=⟨_,rfl⟩
   rw[←htx] at hte HYV
   rw[hte] at UP
   clear hbig hYv hY hmore hns hcons hlen hkw hnl h64 hte htx
   go_upto_region 7 with fail
   go_quiet ((go_at_call 184;exact Calls.quiet_of_same ((hW.out _).mono fun _ _ h=>⟨h.1,h.2.symm⟩)))
   go_wp2_with fail
   refine(UP _ (below_drewN (Below.refl _ _) nq)).out.mono ?_
   rintro e w5 ⟨rfl,hb5⟩
   have hb5':Below (w9.setCell ⟨g,3,none⟩ (.slice (some ⟨rg,0,none⟩) (k+1) vc)).heap.size (w9.setCell ⟨g,3,none⟩ (.slice (some ⟨rg,0,none⟩) (k+1) vc)) w5:=(below_drewN (Below.refl _ _) nq).trans hb5
   have hB5:Blk w5 g 271 (readC m g x (.slice (some ⟨rg,0,none⟩) (k+1) vc)):=HV.out.1.bel hb5'
   have u4:w5.cell? ⟨g,4,none⟩=some (.string x.s):=hB5.cell 4
   have uf4:=hB5.frozen 4
   have H5:=hid (⟨hb5',hB5⟩:_∧_)
   clear hb5 hb5' hB5 UP hW
   go_wp2_with fail
   go_ret2
   rw[HYV.out]
   exact FIN.out _ tx.1 true tx.2 ((Only.of_below H5.out.1 [g]).setCell (Or.inl (by simp)) _) (H5.out.2.set_ 4 _)
theorem RdStep_z (N m g:Nat) (B:MB) (M:MemS) (x:RdP) (lv:Value) (hok:RdOK M.view x) (w:World) (hN:N≤w.heap.size) (hm:MemIs w m B M) (hs:RdIs w N m g x lv) (ha:g∉footM m B M) (hr: ∀k,lv.ownBlock=some k→k∉footM m B M):
  Calls Tryz.prog 229 #[ptrV g] w fun e w'=>e= .returned (.tuple #[.bool (x.next M.view).done,.int .i64 (x.next M.view).bad])∧Lded w w' m B M (g::lv.ownBlock.toList++[m])∧ ∃lv',RdIs w' N m g (x.next M.view) lv'∧ ∀k,lv'.ownBlock=some k→lv.ownBlock=some k∨w.heap.size≤k:=by
 obtain⟨Y,hY⟩: ∃Y,Y=x.got (wdV M.view x.adr).toNat:=⟨_,rfl⟩
 have hn:x.next M.view=Y:=by unfold RdP.next;rw[if_neg (by rw[hok.live];simp),hY]
 have LD:=RdLoad_z N m g B M x lv hok w hN hm hs ha hr
 rw[←hY] at LD
 rw[hn]
 have LD:=hid LD
 have SZ:=hid (Size_m m B M.view.length M.st hm.pos hm.big w hm.blk)
 have c2:w.cell? ⟨g,2,none⟩=some (fnV 161 g):=hs.blk.cell 2
 have c0:w.cell? ⟨g,0,none⟩=some (ptrV m):=hs.blk.cell 0
 have c5:w.cell? ⟨g,5,none⟩=some (.bool false):=by rw[←hok.live];exact hs.blk.cell 5
 have i1: ¬((8*M.view.length:Nat):Int)=0:=by have:=hm.pos;omega
 have b1:(((8*M.view.length:Nat):Int)==0)=false:=by simpa using i1
 have HA:=hid ha
 clear hs hm ha hr hok hn hY i1 hN
 go_enter Tryz.func229,Tryz.ntmps229
 go_wp2_with fail
 refine SZ.out.mono ?_
 rintro e w1 ⟨rfl,rfl⟩
 go_wp2_with fail
 refine LD.out.mono ?_
 rintro e w1 ⟨rfl,hL,lv',hR,hob⟩
 have k5:w1.cell? ⟨g,5,none⟩=some (.bool false):=hR.blk.cell 5
 have k6:w1.cell? ⟨g,6,none⟩=some (.int .i64 0):=hR.blk.cell 6
 have f5:=hR.blk.frozen 5
 have f6:=hR.blk.frozen 6
 have HH:=hid (⟨hL,hR,hob⟩:_∧_∧_)
 clear hL hR hob c2 c0 c5 LD SZ
 go_upto_region 5 with fail
 go_region
 go_wp2_with fail
 go_ret2
 obtain⟨hL,hR,hob⟩:=HH.out
 have hO:Only [g] w1 (((w1.setCell ⟨g,5,none⟩ (.bool Y.done)).setCell ⟨g,6,none⟩ (.int .i64 Y.bad)).drew):=(by repeat(first | exact Only.refl _ _ | (refine Only.drew ?_) | (refine Only.drewN ?_ _) | (refine Only.setCell ?_ (Or.inl (by simp)) _) | (refine Only.alloc ?_ _)))
 refine⟨rfl,hL.only hO (fun y hy=>⟨Or.inl (by rw[List.mem_singleton.1 hy];simp),by rw[List.mem_singleton.1 hy];exact HA.out⟩),lv',⟨?_,hO.own hR.own (fun j hj hc=>hR.ne (by rw[hj,List.mem_singleton.1 hc])),hR.ne⟩,hob⟩
 have h:=(hR.blk.set_ 5 (.bool Y.done)).set_ 6 (.int .i64 Y.bad)
 exact h
theorem RdValue_z (N m g:Nat) (B:MB) (M:MemS) (x:RdP) (lv:Value) (hd:x.done=true) (w:World) (hm:MemIs w m B M) (hs:RdIs w N m g x lv):
  Calls Tryz.prog 126 #[ptrV g] w fun e w'=>e= .returned (.tuple #[.string (if x.bad=0 then x.s else{ data:= #[] }),.int .i64 x.bad])∧Below w.heap.size w w':=by
 have SZ:=hid (Size_m m B M.view.length M.st hm.pos hm.big w hm.blk)
 have c2:w.cell? ⟨g,2,none⟩=some (fnV 161 g):=hs.blk.cell 2
 have c0:w.cell? ⟨g,0,none⟩=some (ptrV m):=hs.blk.cell 0
 have c4:w.cell? ⟨g,4,none⟩=some (.string x.s):=hs.blk.cell 4
 have c5:w.cell? ⟨g,5,none⟩=some (.bool true):=by rw[←hd];exact hs.blk.cell 5
 have c6:w.cell? ⟨g,6,none⟩=some (.int .i64 x.bad):=hs.blk.cell 6
 have i1: ¬((8*M.view.length:Nat):Int)=0:=by have:=hm.pos;omega
 have b1:(((8*M.view.length:Nat):Int)==0)=false:=by simpa using i1
 clear hs hm i1
 by_cases hb:x.bad=0
 ·rw[if_pos hb,hb]
  rw[hb] at c6
  go_enter Tryz.func126,Tryz.ntmps126
  go_wp2_with fail
  refine SZ.out.mono ?_
  rintro e w1 ⟨rfl,rfl⟩
  go_wp2_with fail
  go_ret2
  exact⟨rfl,Below.refl _ _⟩
 ·rw[if_neg hb]
  have b6:(x.bad !=0)=true:=by simpa using hb
  clear hb
  go_enter Tryz.func126,Tryz.ntmps126
  go_wp2_with fail
  refine SZ.out.mono ?_
  rintro e w1 ⟨rfl,rfl⟩
  go_upto_region 6 with fail
  go_region
  go_wp2_with fail
  go_ret2
  exact⟨rfl,(Below.refl _ _).drew⟩
end Go.Proofs.YtjmaicckkkdjpaaGreat
