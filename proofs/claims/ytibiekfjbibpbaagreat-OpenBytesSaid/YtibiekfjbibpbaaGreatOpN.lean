/- An opening's report: rows cloned; (*Open).Report. -/
import Derived.Deep.RegionHeld3
import Derived.Test.YtibiekfjbibpbaaGreatOpM
import Derived.Test.YtibiekfjbibpbaaGreatRegI
import Derived.Test.YtibiekfjbibpbaaGreatLinM
set_option maxRecDepth 100000
set_option maxHeartbeats 4000000
set_option linter.unusedVariables false
set_option linter.unusedSimpArgs false
namespace Go.Proofs.YtibiekfjbibpbaaGreat
open Go.RowKit
theorem adP (b off j:Nat):(⟨b,off,none⟩:Addr).add j=⟨b,off+j,none⟩:=by
 cases j<;>simp[Addr.add]
@[go_sem] theorem eqNilAdrs (a:Option Addr) (n c:Nat) (w:World):(binOp .eql 30 (.slice a n c) (.slice none 0 0)).run Tryz.prog w= .ok (.bool a.isNone) w:=by
 simp[binOp,run_equal_slice_nil w 30 51 a n c Tryz.underlying30]
@[go_sem] theorem eqNilPrs (a:Option Addr) (n c:Nat) (w:World):(binOp .eql 29 (.slice a n c) (.slice none 0 0)).run Tryz.prog w= .ok (.bool a.isNone) w:=by
 simp[binOp,run_equal_slice_nil w 29 48 a n c Tryz.underlying29]
theorem CloneA_z (v:Value) (xs:List Int) (w:World) (h:NumsAt .u64 w v xs) (hn:xs.length≤1000000):
  Calls Tryz.prog 113 #[v] w fun e w'=> ∃v',e= .returned v'∧rowU w' w.heap.size v' xs∧Below w.heap.size w w':=by
 obtain⟨ao,cap,rfl,h2⟩:=h
 obtain⟨n,hnn⟩: ∃n,n=xs.length:=⟨_,rfl⟩
 rw[←hnn]
 cases ao with
 | none=>
  have hx:xs=[]:=h2.resolve_right (by rintro⟨b,off,h,_⟩;cases h)
  have h0:n=0:=by rw[hnn,hx];rfl
  subst hx h0
  clear h2 hnn hn
  go_enter Tryz.func113,Tryz.ntmps113
  go_wp2
  go_ret
  exact⟨_,rfl,World.ownsRow_nil _ _ _ _,Below.refl _ _⟩
 | some p=>
  obtain⟨i0,hi,hz0,hz1,hz2⟩:=info_parts infoAddr
  have hnews: ∀j u,(xs.map (Value.int .u64))[j]?=some u→(w.alloc (.cells #[] 51)).cell? (p.add j)=some u:=by
   intro j u hj
   rw[List.getElem?_map] at hj
   obtain⟨x,hx,rfl⟩:=Option.map_eq_some_iff.1 hj
   rcases h2 with h2 | ⟨b,off,hp,_,h5⟩
   ·rw[h2] at hx;simp at hx
   ·injection hp with hp
    rw[hp]
    have h9:=ca (.cells #[] 51) (h5 j x hx)
    rw[adP];exact h9
  have H3:=hid (show 0+n≤maxLen by unfold maxLen;omega)
  have H4:=hid (show(0+n)*8≤140737488355328 by omega)
  have HL:=hid (show(xs.map (Value.int .u64)).length=n*1 by rw[List.length_map,←hnn,Nat.mul_one])
  have HO:=hid (show ∀v∈xs.map (Value.int .u64),v.oneCell'=true by
   intro u hu
   obtain⟨y,_,rfl⟩:=List.mem_map.1 hu
   rfl)
  have HN:=hid hnews
  have HNN:=hid hnn
  have hempty:(w.alloc (.cells #[] 51)).ownsRow w.heap.size 51 1 (.slice (some ⟨w.heap.size,0,none⟩) 0 0) 0 []:=by
   have:=World.ownsRow_lit (base:=w.heap.size) (e:=51) (size:=1) w #[] 0 (Nat.le_refl _) (Nat.zero_le _) rfl
   simpa using this
  have HE:=hid hempty
  clear hempty hnews h2 hnn hn
  go_enter Tryz.func113,Tryz.ntmps113
  go_wp2_with (at_builtin;refine wpList_append_own_at _ rfl _ _ 30 rfl w.heap.size 51 i0 (.int .u64 0) 1 8 Tryz.underlying30 hi hz0 hz1 hz2 rfl (by decide) (.slice (some ⟨w.heap.size,0,none⟩) 0 0) 0 [] rfl HE.out p n cap _ rfl HL.out HN.out HO.out H3.out H4.out (by simp) ?_;intro v' w1 hown' hgrow _ hat)
  go_ret
  refine⟨_,rfl,by have h9:=hown';rw[Nat.zero_add,HNN.out] at h9;simpa using h9,?_⟩
  exact((Below.refl _ w).alloc (Nat.le_refl _) _).grown hgrow (by simp) (fun k hk=>by
   have:w.heap.size=k:=by simpa[Value.ownBlock] using hk
   omega)
theorem CloneP_z (v:Value) (ps:List (Int×ByteArray)) (w:World) (h:NewsAt w v ps.length (ps.flatMap pairC)) (hn:ps.length≤1000000):
  Calls Tryz.prog 112 #[v] w fun e w'=> ∃v',e= .returned v'∧w'.ownsRow w.heap.size 48 2 v' ps.length (ps.flatMap pairC)∧Below w.heap.size w w':=by
 have hpl:(ps.flatMap pairC).length=ps.length*2:=by
  clear h hn
  induction ps with
  | nil=>rfl
  | cons p ps ih=>rw[List.flatMap_cons,List.length_append,ih,List.length_cons];simp[pairC];omega
 have hone: ∀v∈ps.flatMap pairC,v.oneCell'=true:=by
  intro u hu
  obtain⟨p,_,hp⟩:=List.mem_flatMap.1 hu
  simp only[pairC,List.mem_cons,List.not_mem_nil,or_false] at hp
  rcases hp with rfl | rfl<;>rfl
 obtain⟨n,hnn⟩: ∃n,n=ps.length:=⟨_,rfl⟩
 rw[←hnn] at h ⊢
 rcases h with⟨rfl,h0,h1⟩ | ⟨b,off,cap,rfl,h2⟩
 ·rw[h1]
  subst h0
  clear hnn hn hpl hone h1
  go_enter Tryz.func112,Tryz.ntmps112
  go_wp2
  go_ret
  exact⟨_,rfl,World.ownsRow_nil _ _ _ _,Below.refl _ _⟩
 ·obtain⟨i0,hi,hz0,hz1,hz2⟩:=info_parts infoPair
  have hnews: ∀j u,(ps.flatMap pairC)[j]?=some u→(w.alloc (.cells #[] 48)).cell? ((⟨b,off,none⟩:Addr).add j)=some u:=fun j u hj=>by have h9:=ca (.cells #[] 48) (h2 j u hj);rw[adP];exact h9
  have H3:=hid (show 0+n≤maxLen by unfold maxLen;omega)
  have H4:=hid (show(0+n)*24≤140737488355328 by omega)
  have HL:=hid (show(ps.flatMap pairC).length=n*2 by rw[hpl,hnn])
  have HO:=hid hone
  have HN:=hid hnews
  have hempty:(w.alloc (.cells #[] 48)).ownsRow w.heap.size 48 2 (.slice (some ⟨w.heap.size,0,none⟩) 0 0) 0 []:=by
   have:=World.ownsRow_lit (base:=w.heap.size) (e:=48) (size:=2) w #[] 0 (Nat.le_refl _) (Nat.zero_le _) rfl
   simpa using this
  have HE:=hid hempty
  clear hempty hnews h2 hnn hn hpl hone
  go_enter Tryz.func112,Tryz.ntmps112
  go_wp2_with (at_builtin;refine wpList_append_own_at _ rfl _ _ 29 rfl w.heap.size 48 i0 (.agg #[.int .u64 0,.string ⟨#[]⟩]) 2 24 Tryz.underlying29 hi hz0 hz1 hz2 rfl (by decide) (.slice (some ⟨w.heap.size,0,none⟩) 0 0) 0 [] rfl HE.out ⟨b,off,none⟩ n cap _ rfl HL.out HN.out HO.out H3.out H4.out (by simp) ?_;intro v' w1 hown' hgrow _ hat)
  go_ret
  refine⟨_,rfl,by simpa using hown',?_⟩
  exact((Below.refl _ w).alloc (Nat.le_refl _) _).grown hgrow (by simp) (fun k hk=>by
   have:w.heap.size=k:=by simpa[Value.ownBlock] using hk
   omega)
def RepF (N T:Nat) (pv rv fv kv:Value) (ps:List (Int×ByteArray)) (R F K:List Int):Nat→Value→World→Prop
 | 0,v,_=>v= .pointer (some ⟨T,0,none⟩)
 | 1,v,_=>v=pv
 | 2,v,w=>(∃a c,v= .slice a ps.length c)∧w.ownsRow N 48 2 v ps.length (ps.flatMap pairC)
 | 3,v,_=>v= .pointer (some ⟨T,1,none⟩)
 | 4,v,_=>v=rv
 | 5,v,w=>(∃a c,v= .slice a R.length c)∧rowU w N v R
 | 6,v,_=>v= .pointer (some ⟨T,2,none⟩)
 | 7,v,_=>v=fv
 | 8,v,w=>(∃a c,v= .slice a F.length c)∧rowU w N v F
 | 9,v,_=>v= .pointer (some ⟨T,3,none⟩)
 | 10,v,_=>v=kv
 | 11,v,w=>(∃a c,v= .slice a K.length c)∧rowU w N v K
 | 12,v,_=>v= .pointer (some ⟨T,0,none⟩)
 | _,_,_=>True
theorem RepF.bel {N T:Nat} {pv rv fv kv:Value} {ps:List (Int×ByteArray)} {R F K:List Int} {w w':World} (hb:Below w.heap.size w w'): ∀j v,RepF N T pv rv fv kv ps R F K j v w→RepF N T pv rv fv kv ps R F K j v w':=by
 have ho:Only [] w w':=Only.of_below hb []
 intro j v h
 match j,h with
 | 0,h=>exact h
 | 1,h=>exact h
 | 2,h=>exact⟨h.1,ho.own h.2 (by simp)⟩
 | 3,h=>exact h
 | 4,h=>exact h
 | 5,h=>exact⟨h.1,ho.own h.2 (by simp)⟩
 | 6,h=>exact h
 | 7,h=>exact h
 | 8,h=>exact⟨h.1,ho.own h.2 (by simp)⟩
 | 9,h=>exact h
 | 10,h=>exact h
 | 11,h=>exact⟨h.1,ho.own h.2 (by simp)⟩
 | 12,h=>exact h
 | _+13,_=>trivial
def RepNew (w:World) (err h nn:Int) (ps:List (Int×ByteArray)) (R F K:List Int) (e:Ending) (w':World):Prop:=
 ∃pa pc ra rc fa fc ka kc,e= .returned (.tuple #[.agg #[.slice pa ps.length pc,.slice ra R.length rc,.slice fa F.length fc,.slice ka K.length kc,.int .i64 h,.int .i64 nn],.int .i64 err])∧
  w'.ownsRow w.heap.size 48 2 (.slice pa ps.length pc) ps.length (ps.flatMap pairC)∧rowU w' w.heap.size (.slice ra R.length rc) R∧rowU w' w.heap.size (.slice fa F.length fc) F∧rowU w' w.heap.size (.slice ka K.length kc) K∧Below w.heap.size w w'
theorem OReport_ok (o m:Nat) (B:MB) (M:MemS) (bs:List Int) (tv wv:Value) (h nn:Int) (ps:List (Int×ByteArray)) (R F K:List Int) (pa ra fa ka:Option Addr) (pc rc fc kc:Nat) (hlen:ps.length≤1000000∧R.length≤1000000∧F.length≤1000000∧K.length≤1000000) (w:World)
  (H:OpnD w o m B M bs tv wv true 0 h nn ps R F K (.slice pa ps.length pc) (.slice ra R.length rc) (.slice fa F.length fc) (.slice ka K.length kc)):
  Calls Tryz.prog 33 #[.pointer (some ⟨o,0,none⟩)] w (RepNew w 0 h nn ps R F K):=by
 obtain⟨W1,hW1⟩: ∃W1,W1=w.alloc (.cells #[.slice none 0 0,.slice none 0 0,.slice none 0 0,.slice none 0 0,.int .i64 0,.int .i64 0] 32):=⟨_,rfl⟩
 have hb1:Below w.heap.size w W1:=by rw[hW1];exact ba (Below.refl _ _) _
 have H1:=H.bel hb1
 have OV:=hid (OOver_z o m B M.view.length M.st H.mem.pos H.mem.big tv wv true _ _ _ _ h nn 0 W1 H1.mem.blk H1.blk)
 have y6:W1.cell? ⟨o,6,none⟩=some (.slice pa ps.length pc):=H1.blk.cell 6
 have y7:W1.cell? ⟨o,7,none⟩=some (.slice ra R.length rc):=H1.blk.cell 7
 have y8:W1.cell? ⟨o,8,none⟩=some (.slice fa F.length fc):=H1.blk.cell 8
 have y9:W1.cell? ⟨o,9,none⟩=some (.slice ka K.length kc):=H1.blk.cell 9
 have y10:W1.cell? ⟨o,10,none⟩=some (.int .i64 h):=H1.blk.cell 10
 have y11:W1.cell? ⟨o,11,none⟩=some (.int .i64 nn):=H1.blk.cell 11
 obtain⟨pn,hpn⟩: ∃pn,pn=ps.length:=⟨_,rfl⟩
 obtain⟨rn,hrn⟩: ∃rn,rn=R.length:=⟨_,rfl⟩
 obtain⟨fn,hfn⟩: ∃fn,fn=F.length:=⟨_,rfl⟩
 obtain⟨kn,hkn⟩: ∃kn,kn=K.length:=⟨_,rfl⟩
 rw[←hpn] at y6
 rw[←hrn] at y7
 rw[←hfn] at y8
 rw[←hkn] at y9
 have HL:=hid hlen
 have HR:=hid H1.rep
 have HW1:=hid hW1
 have HB1:=hid hb1
 have HNM:=hid (⟨hpn,hrn,hfn,hkn⟩:_∧_∧_∧_)
 clear H H1 hb1 hW1 hlen hpn hrn hfn hkn
 go_enter Tryz.func33,Tryz.ntmps33
 go_wp2_with fail
 rw[show _=W1 from HW1.out.symm]
 refine OV.out.mono ?_
 rintro e w2 ⟨rfl,rfl⟩
 go_upto_region 5 with fail
 obtain⟨T,hT⟩: ∃T,T=w2.heap.size:=⟨_,rfl⟩
 obtain⟨W4,hW4⟩: ∃W4,W4=w2.alloc (.cells #[.slice pa pn pc,.slice ra rn rc,.slice fa fn fc,.slice ka kn kc,.int .i64 h,.int .i64 nn] 32):=⟨_,rfl⟩
 rw[←hW4]
 rw[←hT]
 have hb4:Below w2.heap.size w2 W4:=by rw[hW4];exact ba (Below.refl _ _) _
 have HSZ:=hid (show w2.heap.size=w.heap.size+1 by rw[HW1.out];simp)
 have kT:Blk W4 T 32 #[.slice pa pn pc,.slice ra rn rc,.slice fa fn fc,.slice ka kn kc,.int .i64 h,.int .i64 nn]:=by rw[hW4,hT];exact Blk.new _ _ _
 have kt2:Blk W4 w.heap.size 32 #[.slice none 0 0,.slice none 0 0,.slice none 0 0,.slice none 0 0,.int .i64 0,.int .i64 0]:=by
  have:=Blk.new w 32 #[.slice none 0 0,.slice none 0 0,.slice none 0 0,.slice none 0 0,.int .i64 0,.int .i64 0]
  rw[←HW1.out] at this
  exact this.bel hb4
 have hR4:=HR.out.bel hb4
 have HKT:=hid (⟨kT,kt2,bx HB1.out hb4,hT⟩:_∧_∧_∧_)
 have HR4:=hid hR4
 clear y6 y7 y8 y9 y10 y11 hT hW4 hb4 kT kt2 hR4 HR OV HW1 HB1
 refine wp_region_inv 13 (fun listed a X=>Below W4.heap.size W4 X∧ ∃x:Nat→Value,FactsE (RepF W4.heap.size T (.slice pa pn pc) (.slice ra rn rc) (.slice fa fn fc) (.slice ka kn kc) ps R F K) listed x X∧a={ tmps:= #[.pointer (some ⟨o,0,none⟩),undef,.pointer (some ⟨w.heap.size,0,none⟩),.int .i64 0,.int .i64 0,.pointer (some ⟨T,0,none⟩),.pointer (some ⟨o,0,none⟩),.int .i64 0,.int .i64 0,.bool false,undef,undef,.pointer (some ⟨o,0,none⟩),.pointer (some ⟨o,0,none⟩),.pointer (some ⟨o,6,none⟩),.agg #[.slice pa pn pc,.slice ra rn rc,.slice fa fn fc,.slice ka kn kc,.int .i64 h,.int .i64 nn],x 0,x 1,x 2,x 3,x 4,x 5,x 6,x 7,x 8,x 9,x 10,x 11,x 12,undef,undef,undef,undef],defers:=[] }) rfl (by kernel_rfl) ?_ ?_ ?_
 ·exact⟨(Below.refl _ _).drew,fun _=>undef,fun i hi=>(by rw[getD_replicate_false] at hi;cases hi),rfl⟩
 ·rintro listed a X i op hi ho hun hdep ⟨hbX,x,hx,rfl⟩
  rcases(by omega:i=0∨i=1∨i=2∨i=3∨i=4∨i=5∨i=6∨i=7∨i=8∨i=9∨i=10∨i=11∨i=12) with rfl | rfl | rfl | rfl | rfl | rfl | rfl | rfl | rfl | rfl | rfl | rfl | rfl
  ·cases ho
   exact wpOp_at rfl rfl (wp_value (v:= .pointer (some ⟨T,0,none⟩)) (by kernel_rfl) ⟨hbX,upd x 0 _,hx.step (fun j v h=>h) rfl,rfl⟩)
  ·cases ho
   have e:x 0= .pointer (some ⟨T,0,none⟩):=hx 0 (hdep { on:=0,ground:= .data } (by simp) rfl)
   have z:X.cell? ⟨T,0,none⟩=some (.slice pa pn pc):=(HKT.out.1.bel hbX).cell 0
   refine wpOp_at rfl rfl (wp_value (v:= .slice pa pn pc) ?_ ⟨hbX,upd x 1 _,hx.step (fun j v h=>h) rfl,rfl⟩)
   rw[e]
   go_simp
  ·cases ho
   have e:x 1= .slice pa pn pc:=hx 1 (hdep { on:=1,ground:= .data } (by simp) rfl)
   refine wpOp_at rfl rfl (wp_enter (f:=112) (args:= #[x 1]) (by kernel_rfl) ?_)
   have C:Calls Tryz.prog 112 #[x 1] X fun e w'=> ∃v',e= .returned v'∧w'.ownsRow X.heap.size 48 2 v' ps.length (ps.flatMap pairC)∧Below X.heap.size X w':=by rw[e,HNM.out.1];exact CloneP_z _ ps X (HR4.out.pa.bel hbX) HL.out.1
   refine C.mono ?_
   rintro e X' ⟨v,rfl,h1,h2⟩
   exact⟨v,rfl,hbX.trans (h2.mono hbX.size),upd x 2 _,hx.step (RepF.bel h2) ⟨row_form1 h1,own_lo h1 hbX.size⟩,rfl⟩
  ·cases ho
   exact wpOp_at rfl rfl (wp_value (v:= .pointer (some ⟨T,1,none⟩)) (by kernel_rfl) ⟨hbX,upd x 3 _,hx.step (fun j v h=>h) rfl,rfl⟩)
  ·cases ho
   have e:x 3= .pointer (some ⟨T,1,none⟩):=hx 3 (hdep { on:=3,ground:= .data } (by simp) rfl)
   have z:X.cell? ⟨T,1,none⟩=some (.slice ra rn rc):=(HKT.out.1.bel hbX).cell 1
   refine wpOp_at rfl rfl (wp_value (v:= .slice ra rn rc) ?_ ⟨hbX,upd x 4 _,hx.step (fun j v h=>h) rfl,rfl⟩)
   rw[e]
   go_simp
  ·cases ho
   have e:x 4= .slice ra rn rc:=hx 4 (hdep { on:=4,ground:= .data } (by simp) rfl)
   refine wpOp_at rfl rfl (wp_enter (f:=113) (args:= #[x 4]) (by kernel_rfl) ?_)
   have C:Calls Tryz.prog 113 #[x 4] X fun e w'=> ∃v',e= .returned v'∧rowU w' X.heap.size v' R∧Below X.heap.size X w':=by rw[e,HNM.out.2.1];exact CloneA_z _ R X (HR4.out.ra.bel hbX) HL.out.2.1
   refine C.mono ?_
   rintro e X' ⟨v,rfl,h1,h2⟩
   exact⟨v,rfl,hbX.trans (h2.mono hbX.size),upd x 5 _,hx.step (RepF.bel h2) ⟨row_form1 h1,own_lo h1 hbX.size⟩,rfl⟩
  ·cases ho
   exact wpOp_at rfl rfl (wp_value (v:= .pointer (some ⟨T,2,none⟩)) (by kernel_rfl) ⟨hbX,upd x 6 _,hx.step (fun j v h=>h) rfl,rfl⟩)
  ·cases ho
   have e:x 6= .pointer (some ⟨T,2,none⟩):=hx 6 (hdep { on:=6,ground:= .data } (by simp) rfl)
   have z:X.cell? ⟨T,2,none⟩=some (.slice fa fn fc):=(HKT.out.1.bel hbX).cell 2
   refine wpOp_at rfl rfl (wp_value (v:= .slice fa fn fc) ?_ ⟨hbX,upd x 7 _,hx.step (fun j v h=>h) rfl,rfl⟩)
   rw[e]
   go_simp
  ·cases ho
   have e:x 7= .slice fa fn fc:=hx 7 (hdep { on:=7,ground:= .data } (by simp) rfl)
   refine wpOp_at rfl rfl (wp_enter (f:=113) (args:= #[x 7]) (by kernel_rfl) ?_)
   have C:Calls Tryz.prog 113 #[x 7] X fun e w'=> ∃v',e= .returned v'∧rowU w' X.heap.size v' F∧Below X.heap.size X w':=by rw[e,HNM.out.2.2.1];exact CloneA_z _ F X (HR4.out.fa.bel hbX) HL.out.2.2.1
   refine C.mono ?_
   rintro e X' ⟨v,rfl,h1,h2⟩
   exact⟨v,rfl,hbX.trans (h2.mono hbX.size),upd x 8 _,hx.step (RepF.bel h2) ⟨row_form1 h1,own_lo h1 hbX.size⟩,rfl⟩
  ·cases ho
   exact wpOp_at rfl rfl (wp_value (v:= .pointer (some ⟨T,3,none⟩)) (by kernel_rfl) ⟨hbX,upd x 9 _,hx.step (fun j v h=>h) rfl,rfl⟩)
  ·cases ho
   have e:x 9= .pointer (some ⟨T,3,none⟩):=hx 9 (hdep { on:=9,ground:= .data } (by simp) rfl)
   have z:X.cell? ⟨T,3,none⟩=some (.slice ka kn kc):=(HKT.out.1.bel hbX).cell 3
   refine wpOp_at rfl rfl (wp_value (v:= .slice ka kn kc) ?_ ⟨hbX,upd x 10 _,hx.step (fun j v h=>h) rfl,rfl⟩)
   rw[e]
   go_simp
  ·cases ho
   have e:x 10= .slice ka kn kc:=hx 10 (hdep { on:=10,ground:= .data } (by simp) rfl)
   refine wpOp_at rfl rfl (wp_enter (f:=113) (args:= #[x 10]) (by kernel_rfl) ?_)
   have C:Calls Tryz.prog 113 #[x 10] X fun e w'=> ∃v',e= .returned v'∧rowU w' X.heap.size v' K∧Below X.heap.size X w':=by rw[e,HNM.out.2.2.2];exact CloneA_z _ K X (HR4.out.ka.bel hbX) HL.out.2.2.2
   refine C.mono ?_
   rintro e X' ⟨v,rfl,h1,h2⟩
   exact⟨v,rfl,hbX.trans (h2.mono hbX.size),upd x 11 _,hx.step (RepF.bel h2) ⟨row_form1 h1,own_lo h1 hbX.size⟩,rfl⟩
  ·cases ho
   exact wpOp_at rfl rfl (wp_value (v:= .pointer (some ⟨T,0,none⟩)) (by kernel_rfl) ⟨hbX,upd x 12 _,hx.step (fun j v h=>h) rfl,rfl⟩)
 ·rintro a X ⟨hbX,x,hx,rfl⟩
  have hx': ∀i,i<13→RepF W4.heap.size T (.slice pa pn pc) (.slice ra rn rc) (.slice fa fn fc) (.slice ka kn kc) ps R F K i (x i) X:=fun i hi=>hx i (by rcases(by omega:i=0∨i=1∨i=2∨i=3∨i=4∨i=5∨i=6∨i=7∨i=8∨i=9∨i=10∨i=11∨i=12) with rfl | rfl | rfl | rfl | rfl | rfl | rfl | rfl | rfl | rfl | rfl | rfl | rfl<;>rfl)
  have e12:x 12= .pointer (some ⟨T,0,none⟩):=hx' 12 (by omega)
  obtain⟨⟨a1,q1,e2⟩,r1⟩:=hx' 2 (by omega)
  obtain⟨⟨a2,q2,e5⟩,r2⟩:=hx' 5 (by omega)
  obtain⟨⟨a3,q3,e8⟩,r3⟩:=hx' 8 (by omega)
  obtain⟨⟨a4,q4,e11⟩,r4⟩:=hx' 11 (by omega)
  rw[e2] at r1
  rw[e5] at r2
  rw[e8] at r3
  rw[e11] at r4
  rw[e2,e5,e8,e11,e12]
  rw[←HNM.out.1,←HNM.out.2.1,←HNM.out.2.2.1,←HNM.out.2.2.2]
  generalize x 0=u0
  generalize x 1=u1
  generalize x 3=u3
  generalize x 4=u4
  generalize x 6=u6
  generalize x 7=u7
  generalize x 9=u9
  generalize x 10=u10
  have hT:=HKT.out.1.bel hbX
  have h2:=HKT.out.2.1.bel hbX
  have hne: ¬w.heap.size=T:=by have:=HKT.out.1.lt;have h3:=HKT.out.2.2.2;have h4:=HKT.out.2.2.1.size;have h5:=HSZ.out;omega
  have hne2: ¬T=w.heap.size:=fun e=>hne e.symm
  have c0:X.cell? ⟨T,0,none⟩=some (.slice pa pn pc):=hT.cell 0
  have f0:=hT.frozen 0
  have c1:X.cell? ⟨T,1,none⟩=some (.slice ra rn rc):=hT.cell 1
  have f1:=hT.frozen 1
  have c2:X.cell? ⟨T,2,none⟩=some (.slice fa fn fc):=hT.cell 2
  have f2:=hT.frozen 2
  have c3:X.cell? ⟨T,3,none⟩=some (.slice ka kn kc):=hT.cell 3
  have f3:=hT.frozen 3
  have c4:X.cell? ⟨T,4,none⟩=some (.int .i64 h):=hT.cell 4
  have c5:X.cell? ⟨T,5,none⟩=some (.int .i64 nn):=hT.cell 5
  have d0:X.cell? ⟨w.heap.size,0,none⟩=some (.slice none 0 0):=h2.cell 0
  have g0:=h2.frozen 0
  have d1:X.cell? ⟨w.heap.size,1,none⟩=some (.slice none 0 0):=h2.cell 1
  have g1:=h2.frozen 1
  have d2:X.cell? ⟨w.heap.size,2,none⟩=some (.slice none 0 0):=h2.cell 2
  have g2:=h2.frozen 2
  have d3:X.cell? ⟨w.heap.size,3,none⟩=some (.slice none 0 0):=h2.cell 3
  have g3:=h2.frozen 3
  have d4:X.cell? ⟨w.heap.size,4,none⟩=some (.int .i64 0):=h2.cell 4
  have g4:=h2.frozen 4
  have d5:X.cell? ⟨w.heap.size,5,none⟩=some (.int .i64 0):=h2.cell 5
  have g5:=h2.frozen 5
  have HRR:=hid (⟨hbX,r1,r2,r3,r4,hT,h2⟩:_∧_∧_∧_∧_∧_∧_)
  clear hbX r1 r2 r3 r4 hT h2 hx hx' e2 e5 e8 e11 e12
  simp only[List.drop_succ_cons,List.drop_zero]
  go_wp2_with fail
  obtain⟨V,hV⟩: ∃V,V=((((((((((X).setCell ⟨T,0,none⟩ (.slice a1 pn q1)).setCell ⟨T,1,none⟩ (.slice a2 rn q2)).setCell ⟨T,2,none⟩ (.slice a3 fn q3)).setCell ⟨T,3,none⟩ (.slice a4 kn q4)).setCell ⟨w.heap.size,0,none⟩ (.slice a1 pn q1)).setCell ⟨w.heap.size,1,none⟩ (.slice a2 rn q2)).setCell ⟨w.heap.size,2,none⟩ (.slice a3 fn q3)).setCell ⟨w.heap.size,3,none⟩ (.slice a4 kn q4)).setCell ⟨w.heap.size,4,none⟩ (.int .i64 h)).setCell ⟨w.heap.size,5,none⟩ (.int .i64 nn):=⟨_,rfl⟩
  rw[←hV]
  obtain⟨hbX,r1,r2,r3,r4,hT,h2⟩:=HRR.out
  have hoV:Only [w.heap.size,T] X V:=by rw[hV];exact(((((((((((Only.refl _ _).setCell (Or.inl (by simp)) _).setCell (Or.inl (by simp)) _).setCell (Or.inl (by simp)) _).setCell (Or.inl (by simp)) _).setCell (Or.inl (by simp)) _).setCell (Or.inl (by simp)) _).setCell (Or.inl (by simp)) _).setCell (Or.inl (by simp)) _).setCell (Or.inl (by simp)) _).setCell (Or.inl (by simp)) _)
  have hK2:Blk V w.heap.size 32 #[.slice a1 pn q1,.slice a2 rn q2,.slice a3 fn q3,.slice a4 kn q4,.int .i64 h,.int .i64 nn]:=by
   rw[hV]
   exact(((((((((((Only.refl [T] X).setCell (Or.inl (by simp)) _).setCell (Or.inl (by simp)) _).setCell (Or.inl (by simp)) _).setCell (Or.inl (by simp)) _).blk h2 (by simpa using hne)).set_ 0 _).set_ 1 _).set_ 2 _).set_ 3 _).set_ 4 _).set_ 5 _
  have hlv:=hK2.lv (P:=Tryz.prog) Tryz.underlying32 rfl (by kernel_rfl)
  have hlt: ∀k,W4.heap.size≤k→k∉ [w.heap.size,T]:=fun k hk hc=>by
   have h3:=HKT.out.1.lt
   have h4:=HKT.out.2.1.lt
   simp only[List.mem_cons,List.not_mem_nil,or_false] at hc
   omega
  have hws:w.heap.size≤W4.heap.size:=HKT.out.2.2.1.size
  have hbV:Below w.heap.size w V:=(HKT.out.2.2.1.trans (hbX.mono hws)).trans (hoV.below (fun k hk=>by
   have h4:=HKT.out.2.2.2
   have h5:=HSZ.out
   simp only[List.mem_cons,List.not_mem_nil,or_false] at hk
   omega) (Nat.le_trans hws hbX.size))
  have s1:=own_lo (hoV.own r1 (fun k hk=>hlt k (own_block r1 k hk).1)) hws
  have s2:=own_lo (hoV.own r2 (fun k hk=>hlt k (own_blockU r2 k hk).1)) hws
  have s3:=own_lo (hoV.own r3 (fun k hk=>hlt k (own_blockU r3 k hk).1)) hws
  have s4:=own_lo (hoV.own r4 (fun k hk=>hlt k (own_blockU r4 k hk).1)) hws
  refine bodyPost_ret (v:= .tuple #[.agg #[.slice a1 pn q1,.slice a2 rn q2,.slice a3 fn q3,.slice a4 kn q4,.int .i64 h,.int .i64 nn],.int .i64 0]) (results_cellv_tmp rfl _ _ _ _ _ rfl rfl hlv) rfl ?_
  rw[HNM.out.1,HNM.out.2.1,HNM.out.2.2.1,HNM.out.2.2.2]
  exact⟨a1,q1,a2,q2,a3,q3,a4,q4,rfl,s1,s2,s3,s4,hbV⟩
theorem OReport_err (o m:Nat) (B:MB) (n:Nat) (s:St4) (hn:0<n) (hb:n≤131072) (tv wv:Value) (dn:Bool) (pv rv fv kv:Value) (h nn err c:Int) (hc:c=if dn=true then err else 7) (hc0:c≠0) (w:World) (hm:Blk w m 206 (memC B n s)) (ho:Blk w o 212 (opnC m tv wv (stepV o) dn err pv rv fv kv h nn)):
  Calls Tryz.prog 33 #[.pointer (some ⟨o,0,none⟩)] w fun e w'=>e= .returned (.tuple #[.agg rep0,.int .i64 c])∧Below w.heap.size w w':=by
 obtain⟨W1,hW1⟩: ∃W1,W1=w.alloc (.cells #[.slice none 0 0,.slice none 0 0,.slice none 0 0,.slice none 0 0,.int .i64 0,.int .i64 0] 32):=⟨_,rfl⟩
 have hb1:Below w.heap.size w W1:=by rw[hW1];exact ba (Below.refl _ _) _
 have OV:=OOver_z o m B n s hn hb tv wv dn pv rv fv kv h nn err W1 (hm.bel hb1) (ho.bel hb1)
 rw[←hc] at OV
 have OV:=hid OV
 have HW1:=hid hW1
 have HB1:=hid hb1
 have k1:Blk W1 w.heap.size 32 #[.slice none 0 0,.slice none 0 0,.slice none 0 0,.slice none 0 0,.int .i64 0,.int .i64 0]:=by rw[hW1];exact Blk.new _ _ _
 have c0:(c !=0)=true:=by simp[hc0]
 have d0:W1.cell? ⟨w.heap.size,0,none⟩=some (.slice none 0 0):=k1.cell 0
 have g0:=k1.frozen 0
 have d1:W1.cell? ⟨w.heap.size,1,none⟩=some (.slice none 0 0):=k1.cell 1
 have g1:=k1.frozen 1
 have d2:W1.cell? ⟨w.heap.size,2,none⟩=some (.slice none 0 0):=k1.cell 2
 have g2:=k1.frozen 2
 have d3:W1.cell? ⟨w.heap.size,3,none⟩=some (.slice none 0 0):=k1.cell 3
 have g3:=k1.frozen 3
 have d4:W1.cell? ⟨w.heap.size,4,none⟩=some (.int .i64 0):=k1.cell 4
 have g4:=k1.frozen 4
 have d5:W1.cell? ⟨w.heap.size,5,none⟩=some (.int .i64 0):=k1.cell 5
 have g5:=k1.frozen 5
 have HK1:=hid k1
 have HC:=hid hc
 clear hm ho hW1 hb1 hc k1
 go_enter Tryz.func33,Tryz.ntmps33
 go_wp2_with fail
 rw[show _=W1 from HW1.out.symm]
 refine OV.out.mono ?_
 rintro e w2 ⟨rfl,rfl⟩
 go_wp2_with fail
 obtain⟨V,hV⟩: ∃V,V=((((((w2).setCell ⟨w.heap.size,0,none⟩ (.slice none 0 0)).setCell ⟨w.heap.size,1,none⟩ (.slice none 0 0)).setCell ⟨w.heap.size,2,none⟩ (.slice none 0 0)).setCell ⟨w.heap.size,3,none⟩ (.slice none 0 0)).setCell ⟨w.heap.size,4,none⟩ (.int .i64 0)).setCell ⟨w.heap.size,5,none⟩ (.int .i64 0):=⟨_,rfl⟩
 rw[←hV]
 have hoV:Only [w.heap.size] w2 V:=by rw[hV];exact(((((((Only.refl _ _).setCell (Or.inl (by simp)) _).setCell (Or.inl (by simp)) _).setCell (Or.inl (by simp)) _).setCell (Or.inl (by simp)) _).setCell (Or.inl (by simp)) _).setCell (Or.inl (by simp)) _)
 have hK2:Blk V w.heap.size 32 rep0:=by rw[hV];exact(((((HK1.out.set_ 0 _).set_ 1 _).set_ 2 _).set_ 3 _).set_ 4 _).set_ 5 _
 have hlv:=hK2.lv (P:=Tryz.prog) Tryz.underlying32 rfl (by kernel_rfl)
 refine bodyPost_ret (v:= .tuple #[.agg rep0,.int .i64 c]) (results_cellv_tmp rfl _ _ _ _ _ rfl rfl hlv) rfl ?_
 exact⟨rfl,HB1.out.trans (hoV.below (fun k hk=>by rw[List.mem_singleton.1 hk];exact Nat.le_refl _) HB1.out.size)⟩
theorem RWords24_z (p:Option Addr) (q n cap:Nat) (hn:n=8*q) (hq:q≤1000000) (w:World):
  Calls Tryz.prog 32 #[.slice p n cap] w fun e w'=>e= .returned (.int .i64 (q:Int))∧w'=w:=by
 have h1:IntKind.i64.wrap ((n:Int).tdiv 8)=(q:Int):=by rw[IntWalk.i64_in _ (by rw[Int.tdiv_eq_ediv_of_nonneg (by omega)];omega),Int.tdiv_eq_ediv_of_nonneg (by omega)];omega
 have h2:(n:Int)/8=q:=by omega
 have HN:=hid hn
 clear hn
 go_enter Tryz.func32,Tryz.ntmps32
 go_wp2
 go_ret
 exact⟨by simp[*],rfl⟩
theorem dlook_new {bs:List Int} {w w':World} {pv rv fv kv x y z:Value} (h:DLkPost bs w (.returned (.tuple #[.agg #[pv,rv,fv,kv,x,y],z])) w'): ∀v∈[pv,rv,fv,kv],∀k,v.ownBlock=some k→w.heap.size≤k:=by
 intro v hv k hk
 obtain⟨_,(⟨rs,ps,leaves,p1,r1,f1,k1,_,_,he,q1,q2,q3,q4⟩ | ⟨_,he⟩)⟩:=h
 ·have e1:pv=p1∧rv=r1∧fv=f1∧kv=k1:=by
   injection he with he;injection he with he;simp at he;exact⟨he.1.1,he.1.2.1,he.1.2.2.1,he.1.2.2.2.1⟩
  obtain⟨rfl,rfl,rfl,rfl⟩:=e1
  simp only[List.mem_cons,List.not_mem_nil,or_false] at hv
  rcases hv with rfl | rfl | rfl | rfl
  ·exact(own_block q1 k hk).1
  ·exact(own_blockU q2 k hk).1
  ·exact(own_blockU q3 k hk).1
  ·exact(own_blockU q4 k hk).1
 ·have e1:pv= .slice none 0 0∧rv= .slice none 0 0∧fv= .slice none 0 0∧kv= .slice none 0 0:=by
   unfold rep0 at he
   injection he with he;injection he with he;simp at he;exact⟨he.1.1,he.1.2.1,he.1.2.2.1,he.1.2.2.2.1⟩
  obtain⟨rfl,rfl,rfl,rfl⟩:=e1
  simp only[List.mem_cons,List.not_mem_nil,or_false] at hv
  rcases hv with rfl | rfl | rfl | rfl<;>cases hk
theorem ROpen24_z (h nn err:Int) (ps:List (Int×ByteArray)) (R F K:List Int) (p:Option Addr) (cap:Nat) (bs:List Int) (n:Nat) (hn:n=bs.length) (hl:n≤1000000) (hdl: ∀w w' e,DLkPost bs w e w'→Below w.heap.size w w'∧AnsOf h nn err ps R F K e w') (w:World) (hbi:BytesIn w p cap bs):
  Calls Tryz.prog 34 #[.slice p n cap] w fun e w'=>AnsOf h nn err ps R F K e w'∧Below w.heap.size w w':=by
 obtain⟨W1,hW1⟩: ∃W1,W1=w.alloc (.cells #[.slice none 0 0,.slice none 0 0,.slice none 0 0,.slice none 0 0,.int .i64 0,.int .i64 0] 32):=⟨_,rfl⟩
 have hb1:Below w.heap.size w W1:=by rw[hW1];exact ba (Below.refl _ _) _
 have k1:Blk W1 w.heap.size 32 #[.slice none 0 0,.slice none 0 0,.slice none 0 0,.slice none 0 0,.int .i64 0,.int .i64 0]:=by rw[hW1];exact Blk.new _ _ _
 have DL:=hid (DLook_r p cap bs n hn hl W1 (bytesBel hbi hb1))
 have HW1:=hid hW1
 have HB1:=hid hb1
 have HK1:=hid k1
 have HDL:=hid hdl
 clear hW1 hb1 k1 hdl hbi hn hl
 go_enter Tryz.func34,Tryz.ntmps34
 go_wp2_with fail
 rw[show _=W1 from HW1.out.symm]
 refine DL.out.mono ?_
 intro e w2 hp
 obtain⟨hb2,pa,pc,ra,rc,fa,fc,ka,kc,rfl,hrep⟩:=HDL.out _ _ _ hp
 have hNW:=dlook_new hp
 clear hp
 have k2:=HK1.out.bel hb2
 have d0:w2.cell? ⟨w.heap.size,0,none⟩=some (.slice none 0 0):=k2.cell 0
 have g0:=k2.frozen 0
 have d1:w2.cell? ⟨w.heap.size,1,none⟩=some (.slice none 0 0):=k2.cell 1
 have g1:=k2.frozen 1
 have d2:w2.cell? ⟨w.heap.size,2,none⟩=some (.slice none 0 0):=k2.cell 2
 have g2:=k2.frozen 2
 have d3:w2.cell? ⟨w.heap.size,3,none⟩=some (.slice none 0 0):=k2.cell 3
 have g3:=k2.frozen 3
 have d4:w2.cell? ⟨w.heap.size,4,none⟩=some (.int .i64 0):=k2.cell 4
 have g4:=k2.frozen 4
 have d5:w2.cell? ⟨w.heap.size,5,none⟩=some (.int .i64 0):=k2.cell 5
 have g5:=k2.frozen 5
 obtain⟨pn,hpn⟩: ∃pn,pn=ps.length:=⟨_,rfl⟩
 obtain⟨rn,hrn⟩: ∃rn,rn=R.length:=⟨_,rfl⟩
 obtain⟨fn,hfn⟩: ∃fn,fn=F.length:=⟨_,rfl⟩
 obtain⟨kn,hkn⟩: ∃kn,kn=K.length:=⟨_,rfl⟩
 rw[←hpn,←hrn,←hfn,←hkn] at hrep hNW ⊢
 have HR:=hid (⟨hrep,k2,hb2,hpn,hrn,hfn,hkn,hNW⟩:_∧_∧_∧_∧_∧_∧_∧_)
 clear hrep k2 hb2 hpn hrn hfn hkn hNW
 go_wp2_with fail
 obtain⟨V,hV⟩: ∃V,V=((((((w2).setCell ⟨w.heap.size,0,none⟩ (.slice pa pn pc)).setCell ⟨w.heap.size,1,none⟩ (.slice ra rn rc)).setCell ⟨w.heap.size,2,none⟩ (.slice fa fn fc)).setCell ⟨w.heap.size,3,none⟩ (.slice ka kn kc)).setCell ⟨w.heap.size,4,none⟩ (.int .i64 h)).setCell ⟨w.heap.size,5,none⟩ (.int .i64 nn):=⟨_,rfl⟩
 rw[←hV]
 have hoV:Only [w.heap.size] w2 V:=by rw[hV];exact(((((((Only.refl _ _).setCell (Or.inl (by simp)) _).setCell (Or.inl (by simp)) _).setCell (Or.inl (by simp)) _).setCell (Or.inl (by simp)) _).setCell (Or.inl (by simp)) _).setCell (Or.inl (by simp)) _)
 obtain⟨hrep,k2,hb2,hpn,hrn,hfn,hkn,hNW⟩:=HR.out
 have hK2:Blk V w.heap.size 32 #[.slice pa pn pc,.slice ra rn rc,.slice fa fn fc,.slice ka kn kc,.int .i64 h,.int .i64 nn]:=by rw[hV];exact(((((k2.set_ 0 _).set_ 1 _).set_ 2 _).set_ 3 _).set_ 4 _).set_ 5 _
 have hlv:=hK2.lv (P:=Tryz.prog) Tryz.underlying32 rfl (by kernel_rfl)
 refine bodyPost_ret (v:= .tuple #[.agg #[.slice pa pn pc,.slice ra rn rc,.slice fa fn fc,.slice ka kn kc,.int .i64 h,.int .i64 nn],.int .i64 err]) (results_cellv_tmp rfl _ _ _ _ _ rfl rfl hlv) rfl ?_
 have hlt:=HK1.out.lt
 have hbV:Below w.heap.size w V:=(bx HB1.out hb2).trans (hoV.below (fun k hk=>by rw[List.mem_singleton.1 hk];exact Nat.le_refl _) (bx HB1.out hb2).size)
 refine⟨⟨pa,pc,ra,rc,fa,fc,ka,kc,by rw[hpn,hrn,hfn,hkn],?_⟩,hbV⟩
 rw[←hpn,←hrn,←hfn,←hkn]
 exact hrep.only hoV (fun v hv k hk hc=>by
  have h3:=hNW v hv k hk
  have h4:=List.mem_singleton.1 hc
  omega)
end Go.Proofs.YtibiekfjbibpbaaGreat
