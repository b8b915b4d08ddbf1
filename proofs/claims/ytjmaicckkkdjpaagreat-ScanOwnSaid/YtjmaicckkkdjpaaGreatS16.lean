import Derived.BigRegion
import Derived.Test.YtjmaicckkkdjpaaGreatS15
/- A value that is read: its object, its steps. -/
set_option maxRecDepth 100000
set_option maxHeartbeats 2000000
set_option linter.unusedVariables false
set_option linter.unusedSimpArgs false
namespace Go.Proofs.YtjmaicckkkdjpaaGreat
open Go.RowKit Go.Shelf
attribute [local go_sem] Oper.semAt_some appM2_run run_store_fnG neFnE neFnEG
attribute [local go_sem ↓ high] append_shut2
theorem w64_pushg {W:World} {N:Nat} {v:Value} {xs:List Int} (h:W.ownsRow N 25 1 v xs.length (xs.map (Value.int .u64))) (hN:N≤W.heap.size) (x:Int) (hm:xs.length≤1000000):
  ∃va vc w9,appRun2 Tryz.prog #[22,22] 22 #[v,.slice (some ⟨W.heap.size,0,none⟩) 1 1] (W.alloc (.cells #[.int .u64 x] 25))= .ok (.slice va (xs.length+1) vc) w9∧
   w9.ownsRow N 25 1 (.slice va (xs.length+1) vc) (xs.length+1) ((xs++[x]).map (Value.int .u64))∧Only v.ownBlock.toList W w9∧((Value.slice va (xs.length+1) vc).ownBlock=v.ownBlock∨(Value.slice va (xs.length+1) vc).ownBlock=some (W.heap.size+1)):=by
 obtain⟨i0,hi0,hz0,hz1,hz2⟩:=info_parts infoCW
 have h5:(W.alloc (.cells #[.int .u64 x] 25)).ownsRow N 25 1 v xs.length (xs.map (Value.int .u64)):=((Only.refl [] W).alloc _).own h (by simp)
 obtain⟨v',w9,r⟩:=run_app (P:=Tryz.prog) (W.alloc (.cells #[.int .u64 x] 25)) N 22 22 25 i0 (.int .u64 0) 1 8 Tryz.underlying22 hi0 hz0 hz1 hz2 rfl (by decide) v xs.length _ h5 (.slice (some ⟨W.heap.size,0,none⟩) 1 1) 1 [.int .u64 x] (Or.inr ⟨W.heap.size,0,1,rfl,fun j u hj=>by
  rw[(Blk.new W 25 #[.int .u64 x]).cell (0+j),Nat.zero_add];simpa using hj⟩) (by simp) (by
  intro u hu
  rw[List.mem_singleton] at hu
  subst hu
  rfl) (by unfold maxLen;omega) (by omega) (by simp;omega)
 have h2':=r.own
 obtain⟨va,vc,rfl⟩:=row_form1 h2'
 refine⟨va,vc,w9,r.run,by rw[List.map_append];exact h2',(((Only.refl [] W).alloc _).mono (fun _ h=>by cases h)).trans (Only.of_grown (f:=v.ownBlock.toList) r.grown (fun y hy=>by simp[hy])) (fun y hy=>Or.inl hy),?_⟩
 rcases r.ob with h4 | h4
 ·exact Or.inl h4
 ·exact Or.inr (h4.trans (by simp))
def readC (m g:Nat) (x:RdP) (lv:Value):Array Value:= #[ptrV m,.int .u64 x.base,fnV 161 g,lv,.string x.s,.bool x.done,.int .i64 x.bad]
structure RdIs (w:World) (N m g:Nat) (x:RdP) (lv:Value):Prop where
 blk:Blk w g 271 (readC m g x lv)
 own:w.ownsRow N 25 1 lv x.l.length (x.l.map fun n:Nat=>Value.int .u64 (n:Int))
 ne:lv.ownBlock≠some g
theorem RdNew_z (m:Nat) (a:Int) (w:World):Calls Tryz.prog 124 #[ptrV m,.int .u64 a] w fun e w'=> ∃g,e= .returned (ptrV g)∧w.heap.size≤g∧RdIs w' w.heap.size m g (rdNew a) (.slice none 0 0)∧Below w.heap.size w w':=by
 go_enter Tryz.func124,Tryz.ntmps124
 go_wp2_with fail
 go_ret
 refine⟨_,rfl,Nat.le_refl _,⟨Blk.new w 271 (readC m w.heap.size (rdNew a) (.slice none 0 0)),World.ownsRow_nil _ _ _ _,by simp[Value.ownBlock]⟩,by(repeat(first | exact Below.refl _ _ | (refine ba ?_ _) | (refine Below.drew ?_) | (refine below_drewN ?_ _) | (refine Below.alloc ?_ (by first | omega | (simp;done) | (simp;omega)) _) | (refine Below.setCell ?_ (by first | omega | (simp;done) | (simp;omega)) _) | (refine bx ?_ (by assumption)) | (refine Below.trans ?_ (Below.mono (by assumption) (by first | omega | (simp;done) | (simp;omega))))))⟩
theorem wdV_u {v:List Int} (h: ∀y∈v,U64 y) (a:Int):U64 (wdV v a):=by
 unfold wdV
 rw[List.getD_eq_getElem?_getD]
 cases hc:v[(a/8).toNat]? with
 | none=>exact⟨by simp,by simp⟩
 | some y=>exact h y (List.mem_of_getElem? hc)
structure RdOK (v:List Int) (x:RdP):Prop where
 live:x.done=false
 bad:x.bad=0
 inv:inV v x.adr
 lo:0≤x.base∧x.base≤1099511627776
 few:x.l.length≤16
 len:x.l≠[]→x.l.length<wordsV (x.l.headD 0)
 vu: ∀y∈v,U64 y
 lu: ∀n∈x.l,n<18446744073709551616
def RdPart (N m g:Nat) (B:MB) (M:MemS) (lv:Value) (y:RdP) (w:World) (e:Ending) (w':World):Prop:=
 e= .returned (.tuple #[.bool y.done,.int .i64 y.bad])∧Lded w w' m B M (g::lv.ownBlock.toList++[m])∧ ∃lv',RdIs w' N m g { y with done:=false,bad:=0 } lv'∧ ∀k,lv'.ownBlock=some k→lv.ownBlock=some k∨w.heap.size≤k
theorem RdLoad_z (N m g:Nat) (B:MB) (M:MemS) (x:RdP) (lv:Value) (hok:RdOK M.view x) (w:World) (hN:N≤w.heap.size) (hm:MemIs w m B M) (hs:RdIs w N m g x lv) (ha:g∉footM m B M) (hr: ∀k,lv.ownBlock=some k→k∉footM m B M):
  Calls Tryz.prog 161 #[ptrV g] w (RdPart N m g B M lv (x.got (wdV M.view x.adr).toNat) w):=by
 obtain⟨q1,q2,q3,q4,q5,q6,q7,q8⟩:=hok
 obtain⟨hb,hown,hne⟩:=hs
 obtain⟨k,hk⟩: ∃k,k=x.l.length:=⟨_,rfl⟩
 rw[←hk] at hown q5
 obtain⟨p,c,rfl⟩:=row_form1 hown
 have hadr:x.adr=x.base+8*(k:Int):=by unfold RdP.adr;rw[←hk]
 have hu:U64 (wdV M.view x.adr):=wdV_u q7 x.adr
 obtain⟨X,hX⟩: ∃X:Nat,X=(wdV M.view x.adr).toNat:=⟨_,rfl⟩
 have hXe:wdV M.view x.adr=(X:Int):=by unfold U64 at hu;omega
 have hX64:X<18446744073709551616:=by unfold U64 at hu;omega
 have LZ:=Load_a m B M _ q3 w.drew (hm.only ((Only.refl [] w).drew) (by simp))
 rw[hXe,hadr] at LZ
 have LZ:=hid LZ
 rw[←hX]
 have z0:w.drew.cell? ⟨g,0,none⟩=some (ptrV m):=hb.cell 0
 have z1:w.drew.cell? ⟨g,1,none⟩=some (.int .u64 x.base):=hb.cell 1
 have z3:w.drew.cell? ⟨g,3,none⟩=some (.slice p k c):=hb.cell 3
 have hgm:g≠m:=fun e=>ha (by rw[e];simp[footM])
 have KF:Hid (∀W,Lded w.drew W m B M [m]→W.cell? ⟨g,0,none⟩=some (ptrV m)∧W.cell? ⟨g,1,none⟩=some (.int .u64 x.base)∧W.cell? ⟨g,3,none⟩=some (.slice p k c)∧Blk W g 271 (readC m g x (.slice p k c))∧N≤W.heap.size∧W.ownsRow N 25 1 (.slice p k c) k (x.l.map fun n:Nat=>Value.int .u64 (n:Int))):=by
  intro W hW
  obtain⟨_,_,_,_,_,_,ho⟩:=hW
  have h1:Blk W g 271 (readC m g x (.slice p k c)):=ho.blk hb.drew (by simpa using hgm)
  exact⟨h1.cell 0,h1.cell 1,h1.cell 3,h1,Nat.le_trans hN ho.size,ho.own (((Only.refl [] w).drew).own hown (by simp)) (fun j hj hc=>hr j hj (by rw[List.mem_singleton.1 hc];simp[footM]))⟩
 have HX:=hid (⟨q1,q2,hk,ha,hne,hr,hX64,q8,q6⟩:_∧_∧_∧_∧_∧_∧_∧_∧_)
 have i0:0≤x.base:=q4.1
 have i1:x.base≤1099511627776:=q4.2
 have i2:(k:Int)≤16:=by omega
 have e1:IntKind.i64.wrap (8*(k:Int))=8*(k:Int):=by rw[IntKind.wrap_i64];omega
 have e2:IntKind.u64.wrap (8*(k:Int))=8*(k:Int):=by rw[IntKind.wrap_u64];omega
 have e3:IntKind.u64.wrap (x.base+8*(k:Int))=x.base+8*(k:Int):=by rw[IntKind.wrap_u64];omega
 clear hb hown hne hm ha hr hgm hX hXe hX64 hu hadr q1 q2 q3 q4 q6 q7 q8 hk
 go_enter Tryz.func161,Tryz.ntmps161
 go_upto_region 1 with fail
 go_region_held3 (fun W=>W.cell? ⟨g,0,none⟩=some (ptrV m)∧W.cell? ⟨g,1,none⟩=some (.int .u64 x.base)∧W.cell? ⟨g,3,none⟩=some (.slice p k c)) (go_keep)
  ((go_at_call 152;refine LZ.out.mono ?_;rintro e w1 ⟨rfl,hL⟩;obtain⟨x0,x1,x3,hb,hNw,hown⟩:=KF.out w1 hL;have HL:=hid hL;have HB:=hid (⟨hb,hNw,hown⟩:_∧_∧_);clear hL hb hown hNw))
 clear x0 x1 x3 z0 z1 z3 e1 e2 e3 LZ KF
 obtain⟨hB1,hNw,hown1⟩:=HB.out
 have hg3: ∃xs:List Int,x.l.map (fun n:Nat=>Value.int .u64 (n:Int))=xs.map (Value.int .u64)∧xs=x.l.map fun n:Nat=>(n:Int):=⟨_,by rw[List.map_map];rfl,rfl⟩
 obtain⟨xs,hxs,hxs2⟩:=hg3
 rw[hxs] at hown1
 have hxl:xs.length=k:=by rw[hxs2,List.length_map];exact HX.out.2.2.1.symm
 obtain⟨va,vc,w9,hrun,hown9,ho9,hob9⟩:=w64_pushg (W:=w1) (xs:=xs) (by rw[hxl];exact hown1) hNw (X:Int) (by omega)
 rw[hxl] at hrun hown9
 have hno:g∉ (Value.slice p k c).ownBlock.toList:=fun hc=>HX.out.2.2.2.2.1 (by simpa using hc)
 have hB9:=ho9.blk hB1 hno
 have d3:w1.cell? ⟨g,3,none⟩=some (.slice p k c):=hB1.cell 3
 have g3:w9.cell? ⟨g,3,none⟩=some (.slice p k c):=hB9.cell 3
 have g3f:=hB9.frozen 3
 have hrun2:appRun2 Tryz.prog #[22,22] 22 #[.slice p k c,.slice (some ⟨w1.heap.size,0,none⟩) 1 1] (w1.alloc (.cells #[.int .u64 (X:Int)] 25))= .ok (.slice va (k+1) vc) w9:=hrun
 obtain⟨rg,cap,hv9,hNr,hcap,hrl,hcl⟩:=own_some hown9 (Nat.succ_pos k)
 injection hv9 with ev _ ec
 subst ev ec
 obtain⟨V,hV⟩: ∃V,V=w9.setCell ⟨g,3,none⟩ (.slice (some ⟨rg,0,none⟩) (k+1) vc):=⟨_,rfl⟩
 have hBV:Blk V g 271 (readC m g x (.slice (some ⟨rg,0,none⟩) (k+1) vc)):=by rw[hV];exact hB9.set_ 3 _
 have hne9:rg≠g:=by
  intro e
  rcases hob9 with h | h
  ·rw[←h] at hno;exact hno (by simp[Value.ownBlock,e])
  ·have h2:some rg=some (w1.heap.size+1):=h
   injection h2 with h2
   have:=hB1.lt
   omega
 have hOV:Only [g] w9 V:=by rw[hV];exact(by repeat(first | exact Only.refl _ _ | (refine Only.drew ?_) | (refine Only.drewN ?_ _) | (refine Only.setCell ?_ (Or.inl (by simp)) _) | (refine Only.alloc ?_ _)))
 have hownV:V.ownsRow N 25 1 (.slice (some ⟨rg,0,none⟩) (k+1) vc) (k+1) ((xs++[(X:Int)]).map (Value.int .u64)):=hOV.own hown9 (fun j hj hc=>by
  have h2:some rg=some j:=hj
  injection h2 with h2
  exact hne9 (h2.trans (List.mem_singleton.1 hc)))
 have HV:=hid (⟨hBV,hownV,hOV,ho9,hob9,hne9,hno,hxs2⟩:_∧_∧_∧_∧_∧_∧_∧_)
 obtain⟨n0,hn0⟩: ∃n0,n0=(x.l++[X]).headD 0:=⟨_,rfl⟩
 have hcV: ∀(i n:Nat),(x.l++[X])[i]?=some n→V.cell? ⟨rg,i,none⟩=some (.int .u64 (n:Int)):=fun i n hi=>by
  refine(hOV.cell (p:=⟨rg,i,none⟩) hrl (by simpa using hne9)).trans ?_
  have:=hcl i (.int .u64 (n:Int)) (by
   rw[List.getElem?_map,hxs2]
   have e:(x.l.map fun n:Nat=>(n:Int))++[(X:Int)]=(x.l++[X]).map fun n:Nat=>(n:Int):=by rw[List.map_append];rfl
   rw[e,List.getElem?_map,hi];rfl)
  rw[Nat.zero_add] at this
  exact this
 have hc0:V.cell? ⟨rg,0,none⟩=some (.int .u64 (n0:Int)):=hcV 0 n0 (by
  rw[hn0]
  cases x.l with
  | nil=>rfl
  | cons y l=>rfl)
 have y3:V.cell? ⟨g,3,none⟩=some (.slice (some ⟨rg,0,none⟩) (k+1) vc):=hBV.cell 3
 have y4:V.cell? ⟨g,4,none⟩=some (.string x.s):=hBV.cell 4
 have f4:=hBV.frozen 4
 have HCV:=hid (⟨hcV,hn0,hrl,hcap⟩:_∧_∧_∧_)
 have hn64:n0<18446744073709551616:=by
  rw[hn0]
  cases hc:x.l with
  | nil=>exact HX.out.2.2.2.2.2.2.1
  | cons y l=>exact HX.out.2.2.2.2.2.2.2.1 y (by rw[hc];simp)
 have hLV:Lded w V m B M (g::(Value.slice p k c).ownBlock.toList++[m]):=by
  refine(HL.out.drew.mono (g:=g::(Value.slice p k c).ownBlock.toList++[m]) (by simp)).only (g:=g::(Value.slice p k c).ownBlock.toList) ((ho9.mono (fun y hy=>List.mem_cons_of_mem _ hy)).trans hOV (fun y hy=>Or.inl (by rw[List.mem_singleton.1 hy];simp))) (fun y hy=> ?_)
  rcases List.mem_cons.1 hy with rfl | hy
  ·exact⟨Or.inl (by simp),HX.out.2.2.2.1⟩
  ·exact⟨Or.inl (by rw[List.cons_append];exact List.mem_cons_of_mem _ (List.mem_append_left _ hy)),HX.out.2.2.2.2.2.1 y (by simpa using hy)⟩
 have hw1s:w.heap.size≤w1.heap.size:=by obtain⟨_,_,_,_,_,_,ho⟩:=HL.out;exact ho.size
 have FIN:Hid (∀(V2:World) (s':ByteArray) (d:Bool) (bb:Int),Only [g] V V2→Blk V2 g 271 (readC m g { x with l:=x.l++[X],s:=s' } (.slice (some ⟨rg,0,none⟩) (k+1) vc))→RdPart N m g B M (.slice p k c) { x with l:=x.l++[X],s:=s',done:=d,bad:=bb } w (.returned (.tuple #[.bool d,.int .i64 bb])) V2):=by
  intro V2 s' d bb hO hB
  have h1:(xs++[(X:Int)]).map (Value.int .u64)=(x.l++[X]).map fun n:Nat=>Value.int .u64 (n:Int):=by rw[hxs2,List.map_append,List.map_append,List.map_map];rfl
  have h2:(x.l++[X]).length=k+1:=by rw[List.length_append,HX.out.2.2.1];rfl
  refine⟨rfl,hLV.only hO (fun y hy=>⟨Or.inl (by rw[List.mem_singleton.1 hy];simp),by rw[List.mem_singleton.1 hy];exact HX.out.2.2.2.1⟩),.slice (some ⟨rg,0,none⟩) (k+1) vc,⟨?_,?_,fun hc=>hne9 (by have h9:some rg=some g:=hc;exact Option.some.inj h9)⟩,fun j hj=> ?_⟩
  ·have e:({ x with l:=x.l++[X],s:=s',done:=false,bad:=0 }:RdP)={ x with l:=x.l++[X],s:=s' }:=by rw[show({ x with l:=x.l++[X],s:=s',done:=false,bad:=0 }:RdP)={ x with l:=x.l++[X],s:=s',done:=x.done,bad:=x.bad } by rw[HX.out.1,HX.out.2.1]]
   show Blk V2 g 271 (readC m g { x with l:=x.l++[X],s:=s',done:=false,bad:=0 } (.slice (some ⟨rg,0,none⟩) (k+1) vc))
   rw[e];exact hB
  ·show V2.ownsRow N 25 1 _ (x.l++[X]).length ((x.l++[X]).map fun n:Nat=>Value.int .u64 (n:Int))
   rw[h2,←h1]
   exact hO.own hownV (fun i hi hc=>hne9 (by have h9:some rg=some i:=hi;exact(Option.some.inj h9).trans (List.mem_singleton.1 hc)))
  ·rcases hob9 with h | h
   ·exact Or.inl (h.symm.trans hj)
   ·right
    have h3:some j=some (w1.heap.size+1):=hj.symm.trans h
    injection h3 with h3
    omega
 rw[hV] at y3 y4 hc0 f4
 have i5:(0:Int)< ((k+1:Nat):Int):=by omega
 clear hBV hownV hOV ho9 hob9 hne9 hno hxs2 hxs hxl hrun hown9 hown1 hB1 hNw hB9 hcl hrl hcap hcV hn0
 have hgot:=HCV.out.2.1
 obtain⟨Y,hY⟩: ∃Y,Y=x.got X:=⟨_,rfl⟩
 have hYv:=hY
 unfold RdP.got at hYv
 rw[←hgot] at hYv
 rw[hV] at FIN HV HCV
 clear hV hgot
 by_cases hbig:120<n0
 ·have b1:decide ((n0:Int)>120)=true:=decide_eq_true (by omega)
  rw[if_pos hbig] at hYv
  have HYV:=hid (hY.symm.trans hYv)
  clear hbig hYv hY
  go_wp2_with fail
  go_ret2
  rw[HYV.out]
  exact FIN.out _ x.s true 11 (Only.refl _ _) HV.out.1
 ·have b1:decide ((n0:Int)>120)=false:=decide_eq_false (by omega)
  rw[if_neg hbig] at hYv
  have hW:=hid (VWords_z n0 (by omega))
  have e1:IntKind.i64.wrap (n0:Int)=(n0:Int):=by rw[IntKind.wrap_i64];omega
  by_cases hmore:x.l.length+1<wordsV n0
  ·rw[if_pos hmore] at hYv
   have HYV:=hid (hY.symm.trans hYv)
   have b2:((k+1:Nat):Int)< ((wordsV n0:Nat):Int):=by have:=HX.out.2.2.1;omega
   clear hbig hYv hY hmore
   go_upto_region 7 with fail
   go_quiet ((go_at_call 184;exact Calls.quiet_of_same ((hW.out _).mono fun _ _ h=>⟨h.1,h.2.symm⟩)))
   go_wp2_with fail
   go_ret2
   rw[HYV.out]
   have h:=FIN.out ((w9.setCell ⟨g,3,none⟩ (.slice (some ⟨rg,0,none⟩) (k+1) vc)).drewN nq) x.s false 0 ((Only.refl _ _).drewN nq) (HV.out.1.drewN nq)
   have e:({ x with l:=x.l++[X],s:=x.s,done:=false,bad:=0 }:RdP)={ x with l:=x.l++[X] }:=by rw[show({ x with l:=x.l++[X],s:=x.s,done:=false,bad:=0 }:RdP)={ x with l:=x.l++[X],done:=x.done,bad:=x.bad } by rw[HX.out.1,HX.out.2.1]]
   rw[e] at h
   exact h
  ·rw[if_neg hmore] at hYv
   have b2: ¬((k+1:Nat):Int)< ((wordsV n0:Nat):Int):=by have:=HX.out.2.2.1;omega
   obtain⟨ns,hns⟩: ∃ns,ns=(x.l++[X]).tail:=⟨_,rfl⟩
   rw[←hns] at hYv
   have hcons:x.l++[X]=n0::ns:=by
    rw[hns,HCV.out.2.1]
    cases x.l with
    | nil=>rfl
    | cons y l=>rfl
   have hlen:ns.length+1=k+1:=by
    have h1:=congrArg List.length hcons
    rw[List.length_append,←HX.out.2.2.1] at h1
    exact h1.symm
   have hkw:k<wordsV n0:=by
    by_cases hk0:x.l=[]
    ·have:=HX.out.2.2.1
     rw[hk0] at this
     rw[this];unfold wordsV;simp only[List.length_nil];omega
    ·have h1:=HX.out.2.2.2.2.2.2.2.2 hk0
     have h2:x.l.headD 0=n0:=by
      rw[HCV.out.2.1]
      cases hc:x.l with
      | nil=>exact absurd hc hk0
      | cons y l=>rfl
     rw[h2,←HX.out.2.2.1] at h1
     exact h1
   have hnl:ns.length=(n0+7)/8:=by
    have h1: ¬k+1<wordsV n0:=by have:=HX.out.2.2.1;omega
    unfold wordsV at h1 hkw
    omega
   have h64: ∀y∈ns,y<18446744073709551616:=fun y hy=>by
    have h1:y∈x.l++[X]:=by rw[hcons];exact List.mem_cons_of_mem _ hy
    rcases List.mem_append.1 h1 with h | h
    ·exact HX.out.2.2.2.2.2.2.2.1 y h
    ·rw[List.mem_singleton.1 h];exact HX.out.2.2.2.2.2.2.1
   have UP:=fun(W:World) (hb:Below (w9.setCell ⟨g,3,none⟩ (.slice (some ⟨rg,0,none⟩) (k+1) vc)).heap.size (w9.setCell ⟨g,3,none⟩ (.slice (some ⟨rg,0,none⟩) (k+1) vc)) W)=>hid (VUnpack_z n0 ns (by omega) hnl h64 rg 0 (k+1) vc (by omega) HCV.out.2.2.2 W (by
    refine⟨Nat.lt_of_lt_of_le HCV.out.2.2.1 (Nat.le_trans HV.out.2.2.1.size hb.size),fun i y hi=> ?_⟩
    rw[Nat.zero_add]
    have h1:=HCV.out.1 i y (by rw[hcons];exact hi)
    exact(hb.cell (p:=⟨rg,i,none⟩) (World.block_lt_of_cell? _ _ h1)).trans h1))
   have HYV:=hid (hY.symm.trans hYv)
   have hte:=textV_eq n0 ns
   obtain⟨tx,htx⟩: ∃tx,tx=txtE n0 ns:=⟨_,rfl⟩
   rw[←htx] at hte HYV
   rw[hte] at UP
   clear hbig hYv hY hmore hns hcons hlen hkw hnl h64 hte htx
   go_upto_region 7 with fail
   go_quiet ((go_at_call 184;exact Calls.quiet_of_same ((hW.out _).mono fun _ _ h=>⟨h.1,h.2.symm⟩)))
   go_wp2_with fail
   refine(UP _ (below_drewN (Below.refl _ _) nq)).out.mono ?_
   rintro e w5 ⟨rfl,hb5⟩
   have hb5':Below (w9.setCell ⟨g,3,none⟩ (.slice (some ⟨rg,0,none⟩) (k+1) vc)).heap.size (w9.setCell ⟨g,3,none⟩ (.slice (some ⟨rg,0,none⟩) (k+1) vc)) w5:=(below_drewN (Below.refl _ _) nq).trans hb5
   have hB5:Blk w5 g 271 (readC m g x (.slice (some ⟨rg,0,none⟩) (k+1) vc)):=HV.out.1.bel hb5'
   have u4:w5.cell? ⟨g,4,none⟩=some (.string x.s):=hB5.cell 4
   have uf4:=hB5.frozen 4
   have H5:=hid (⟨hb5',hB5⟩:_∧_)
   clear hb5 hb5' hB5 UP hW
   go_wp2_with fail
   go_ret2
   rw[HYV.out]
   exact FIN.out _ tx.1 true tx.2 ((Only.of_below H5.out.1 [g]).setCell (Or.inl (by simp)) _) (H5.out.2.set_ 4 _)
theorem RdStep_z (N m g:Nat) (B:MB) (M:MemS) (x:RdP) (lv:Value) (hok:RdOK M.view x) (w:World) (hN:N≤w.heap.size) (hm:MemIs w m B M) (hs:RdIs w N m g x lv) (ha:g∉footM m B M) (hr: ∀k,lv.ownBlock=some k→k∉footM m B M):
  Calls Tryz.prog 229 #[ptrV g] w fun e w'=>e= .returned (.tuple #[.bool (x.next M.view).done,.int .i64 (x.next M.view).bad])∧Lded w w' m B M (g::lv.ownBlock.toList++[m])∧ ∃lv',RdIs w' N m g (x.next M.view) lv'∧ ∀k,lv'.ownBlock=some k→lv.ownBlock=some k∨w.heap.size≤k:=by
 obtain⟨Y,hY⟩: ∃Y,Y=x.got (wdV M.view x.adr).toNat:=⟨_,rfl⟩
 have hn:x.next M.view=Y:=by unfold RdP.next;rw[if_neg (by rw[hok.live];simp),hY]
 have LD:=RdLoad_z N m g B M x lv hok w hN hm hs ha hr
 rw[←hY] at LD
 rw[hn]
 have LD:=hid LD
 have SZ:=hid (Size_m m B M.view.length M.st hm.pos hm.big w hm.blk)
 have c2:w.cell? ⟨g,2,none⟩=some (fnV 161 g):=hs.blk.cell 2
 have c0:w.cell? ⟨g,0,none⟩=some (ptrV m):=hs.blk.cell 0
 have c5:w.cell? ⟨g,5,none⟩=some (.bool false):=by rw[←hok.live];exact hs.blk.cell 5
 have i1: ¬((8*M.view.length:Nat):Int)=0:=by have:=hm.pos;omega
 have b1:(((8*M.view.length:Nat):Int)==0)=false:=by simpa using i1
 have HA:=hid ha
 clear hs hm ha hr hok hn hY i1 hN
 go_enter Tryz.func229,Tryz.ntmps229
 go_wp2_with fail
 refine SZ.out.mono ?_
 rintro e w1 ⟨rfl,rfl⟩
 go_wp2_with fail
 refine LD.out.mono ?_
 rintro e w1 ⟨rfl,hL,lv',hR,hob⟩
 have k5:w1.cell? ⟨g,5,none⟩=some (.bool false):=hR.blk.cell 5
 have k6:w1.cell? ⟨g,6,none⟩=some (.int .i64 0):=hR.blk.cell 6
 have f5:=hR.blk.frozen 5
 have f6:=hR.blk.frozen 6
 have HH:=hid (⟨hL,hR,hob⟩:_∧_∧_)
 clear hL hR hob c2 c0 c5 LD SZ
 go_upto_region 5 with fail
 go_region
 go_wp2_with fail
 go_ret2
 obtain⟨hL,hR,hob⟩:=HH.out
 have hO:Only [g] w1 (((w1.setCell ⟨g,5,none⟩ (.bool Y.done)).setCell ⟨g,6,none⟩ (.int .i64 Y.bad)).drew):=(by repeat(first | exact Only.refl _ _ | (refine Only.drew ?_) | (refine Only.drewN ?_ _) | (refine Only.setCell ?_ (Or.inl (by simp)) _) | (refine Only.alloc ?_ _)))
 refine⟨rfl,hL.only hO (fun y hy=>⟨Or.inl (by rw[List.mem_singleton.1 hy];simp),by rw[List.mem_singleton.1 hy];exact HA.out⟩),lv',⟨?_,hO.own hR.own (fun j hj hc=>hR.ne (by rw[hj,List.mem_singleton.1 hc])),hR.ne⟩,hob⟩
 have h:=(hR.blk.set_ 5 (.bool Y.done)).set_ 6 (.int .i64 Y.bad)
 exact h
theorem RdValue_z (N m g:Nat) (B:MB) (M:MemS) (x:RdP) (lv:Value) (hd:x.done=true) (w:World) (hm:MemIs w m B M) (hs:RdIs w N m g x lv):
  Calls Tryz.prog 126 #[ptrV g] w fun e w'=>e= .returned (.tuple #[.string (if x.bad=0 then x.s else{ data:= #[] }),.int .i64 x.bad])∧Below w.heap.size w w':=by
 have SZ:=hid (Size_m m B M.view.length M.st hm.pos hm.big w hm.blk)
 have c2:w.cell? ⟨g,2,none⟩=some (fnV 161 g):=hs.blk.cell 2
 have c0:w.cell? ⟨g,0,none⟩=some (ptrV m):=hs.blk.cell 0
 have c4:w.cell? ⟨g,4,none⟩=some (.string x.s):=hs.blk.cell 4
 have c5:w.cell? ⟨g,5,none⟩=some (.bool true):=by rw[←hd];exact hs.blk.cell 5
 have c6:w.cell? ⟨g,6,none⟩=some (.int .i64 x.bad):=hs.blk.cell 6
 have i1: ¬((8*M.view.length:Nat):Int)=0:=by have:=hm.pos;omega
 have b1:(((8*M.view.length:Nat):Int)==0)=false:=by simpa using i1
 clear hs hm i1
 by_cases hb:x.bad=0
 ·rw[if_pos hb,hb]
  rw[hb] at c6
  go_enter Tryz.func126,Tryz.ntmps126
  go_wp2_with fail
  refine SZ.out.mono ?_
  rintro e w1 ⟨rfl,rfl⟩
  go_wp2_with fail
  go_ret2
  exact⟨rfl,Below.refl _ _⟩
 ·rw[if_neg hb]
  have b6:(x.bad !=0)=true:=by simpa using hb
  clear hb
  go_enter Tryz.func126,Tryz.ntmps126
  go_wp2_with fail
  refine SZ.out.mono ?_
  rintro e w1 ⟨rfl,rfl⟩
  go_upto_region 6 with fail
  go_region
  go_wp2_with fail
  go_ret2
  exact⟨rfl,(Below.refl _ _).drew⟩
end Go.Proofs.YtjmaicckkkdjpaaGreat
