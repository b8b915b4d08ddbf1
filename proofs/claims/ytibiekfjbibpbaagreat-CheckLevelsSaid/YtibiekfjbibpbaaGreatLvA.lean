/- check.Node: the node that stands at an address, walked. -/
import Derived.Test.YtibiekfjbibpbaaGreatRegI
import Derived.Test.YtibiekfjbibpbaaGreatLvE
import Derived.Test.YtibiekfjbibpbaaGreatRepM
import Derived.Test.YtibiekfjbibpbaaGreatDocM
set_option maxRecDepth 100000
set_option maxHeartbeats 1000000
set_option linter.unusedVariables false
set_option linter.unusedSimpArgs false
namespace Go.Proofs.YtibiekfjbibpbaaGreat
open Go.RowKit
attribute [local go_sem ↓ high] q0s q0f q0d z8r
attribute [local go_sem] q1x q1p q1v Oper.semAt_some
theorem cutWord (bs:List Int) (k i:Nat) (hi:i<24):wAt ((bs.drop (8*k)).take 192) i=q2p bs (8*(k:Int)) i:=by
 have e:(8*(k:Int)+8*(i:Int)).toNat=8*k+8*i:=by omega
 unfold wAt q2p wdI
 rw[e,List.drop_take,List.take_take,List.drop_drop,show min 8 (192-8*i)=8 by omega]
theorem cutWords (bs:List Int) (k:Nat):((List.range 24).map fun x=>Value.int .u64 (wAt ((bs.drop (8*k)).take 192) x))=(q0o (q2p bs (8*(k:Int)))).toList:=by
 have h:((List.range 24).map fun x=>Value.int .u64 (wAt ((bs.drop (8*k)).take 192) x))=(List.range 24).map fun x=>Value.int .u64 (q2p bs (8*(k:Int)) x):=List.map_congr_left fun x hx=>by rw[cutWord bs k x (List.mem_range.1 hx)]
 rw[h]
 rfl
def NdG (b off n cap s:Nat) (cw:Int):Nat→Value→World→Prop
 | 0,v,_=>v= .slice (some ⟨b,off,none⟩) n cap
 | 1,v,_=>v= .int .i64 (s:Int)
 | 2,v,_=>v= .int .u64 (1024*(s:Int))
 | 3,v,_=>v= .int .i64 (1024*(s:Int))
 | 4,v,_=>v= .tuple #[.int .u64 cw,.int .i64 0]
 | 5,v,_=>v= .tuple #[.int .u64 cw,.int .i64 0]
 | 6,v,_=>v= .int .u64 cw
 | 7,v,_=>v= .int .i64 0
 | 8,v,_=>v= .int .u64 cw
 | _,_,_=>True
theorem NdG.any {b off n cap s:Nat} {cw:Int} {w w':World} (j:Nat) (v:Value) (h:NdG b off n cap s cw j v w):NdG b off n cap s cw j v w':=by
 unfold NdG at h ⊢
 split at h<;>exact h
def NdH (b off n cap k N:Nat) (L:List Value):Nat→Value→World→Prop
 | 0,v,_=>v= .slice (some ⟨b,off,none⟩) n cap
 | 1,v,_=>v= .int .u64 (8*(k:Int))
 | 2,v,_=>v= .int .u64 (8*(k:Int))
 | 3,v,_=>v= .int .i64 192
 | 4,v,_=>v= .int .u64 192
 | 5,v,_=>v= .int .u64 (8*(k:Int)+192)
 | 6,v,_=>v= .slice (some ⟨b,off+8*k,none⟩) 192 (cap-8*k)
 | 7,v,w=> ∃v',v= .tuple #[v',.int .i64 0]∧w.ownsRow N 46 1 v' 24 L
 | 8,v,w=> ∃v',v= .tuple #[v',.int .i64 0]∧w.ownsRow N 46 1 v' 24 L
 | 9,v,w=>w.ownsRow N 46 1 v 24 L
 | 10,v,_=>v= .int .i64 0
 | 11,v,w=>w.ownsRow N 46 1 v 24 L
 | _,_,_=>True
theorem NdH.bel {b off n cap k N:Nat} {L:List Value} {w w':World} (hb:Below w.heap.size w w') (j:Nat) (v:Value) (h:NdH b off n cap k N L j v w):NdH b off n cap k N L j v w':=by
 have ho:Only [] w w':=Only.of_below hb []
 unfold NdH at h ⊢
 split at h<;>first | exact h | exact h.imp fun v' h'=>⟨h'.1,ho.own h'.2 (by simp)⟩ | exact ho.own h (by simp)
theorem CkNode1_yes (b0 b1 b2 b off n cap:Nat) (bs:List Int) (a:Int) (nd:NodeA) (hn:n=bs.length) (hl:n≤100000) (hcap:n≤cap) (hc63:cap≤9223372036854775807) (ha:0≤a∧a≤18446744073709551615) (hX:q1y bs a=some nd) (w:World)
  (c0:w.cell? ⟨b0,0,none⟩=some (.slice (some ⟨b,off,none⟩) n cap)) (c1:w.cell? ⟨b1,0,none⟩=some (.int .u64 a)) (k2:Blk w b2 55 (q0x q2w)) (h:q1m w (some ⟨b,off,none⟩) cap bs):
  Calls Tryz.prog 81 #[.pointer (some ⟨b0,0,none⟩),.pointer (some ⟨b1,0,none⟩),.pointer (some ⟨b2,0,none⟩)] w fun e w'=>e= .returned (.tuple #[])∧Blk w' b2 55 (q0x nd)∧Only [b2] w w':=by
 have hcl:clsI bs a=3∧tagN≤wdI bs a∧wdI bs a≤tagN+15:=by
  unfold q1y at hX;split at hX
  ·assumption
  ·cases hX
 have hne:nd=q5t (q2p bs a):=by
  unfold q1y at hX;rw[if_pos hcl] at hX;injection hX with hX;exact hX.symm
 have hsb:0<q1q a∧q1q a≤q0w bs.length∧q1u bs (q1q a).toNat=3∧idxB a 3=true:=by
  have h1:=hcl.1
  have h2:=q5w a
  unfold clsI at h1
  split at h1
  ·cases h1
  ·split at h1
   ·rename_i h3 h4
    refine⟨by omega,by omega,by omega,?_⟩
    have h5:q1u bs (q1q a).toNat=3:=by omega
    rw[h5] at h4
    exact h4.2
   ·cases h1
 have hs0:0<q0w bs.length:=by omega
 have hlen:=q1s hs0
 obtain⟨k,hak,hk24,hk0⟩:=z2q hcl.1 ha.1 hs0
 subst hak
 have hcls:leW ((bs.drop (1024*(q1q (8*(k:Int))).toNat)).take 8)=3:=by
  have h1:=hsb.2.2.1
  unfold q1u at h1
  omega
 obtain⟨s,hs⟩: ∃s:Nat,q1q (8*(k:Int))=(s:Int):=⟨(q1q (8*(k:Int))).toNat,by have:=q5w (8*(k:Int));omega⟩
 have hs1:(q1q (8*(k:Int))).toNat=s:=by omega
 rw[hs1] at hcls
 obtain⟨t,ht⟩: ∃t:Int,t=q0w (n:Int):=⟨_,rfl⟩
 have htl:t=q0w (bs.length:Int):=by rw[ht,hn]
 have hst:0<t∧1≤s∧(s:Int)≤t∧s≤64∧1024*s+1024≤n:=by have:=q5w (8*(k:Int));omega
 have SL:Hid (Calls Tryz.prog 82 #[.int .i64 (n:Int)] w fun e w'=>e= .returned (.tuple #[.int .i64 t,.bool true])∧w=w'):=by
  have h1:=q8h (n:Int) w (by omega) (by omega)
  rw[←ht,decide_eq_true (by omega:0<t)] at h1
  exact hid h1
 have SB:Hid (Calls Tryz.prog 83 #[.int .u64 (8*(k:Int))] w fun e w'=>e= .returned (.int .i64 (s:Int))∧w=w'):=by
  have h1:=z7m (8*(k:Int)) w ha.1 ha.2
  rw[hs] at h1
  exact hid h1
 have HD:Hid (∀X,Calls Tryz.prog 86 #[.int .i64 (s:Int)] X fun e w'=>e= .returned (.int .u64 (1024*(s:Int)))∧Below X.heap.size X w'):=by
  refine hid fun X=> ?_
  have h1:=q5k (s:Int) X
  unfold q1g at h1
  rw[if_pos (by omega)] at h1
  exact h1.mono fun e w' h=>⟨h.1,h.2▸Below.refl _ _⟩
 have WG:Hid (∀X,Below w.heap.size w X→Calls Tryz.prog 85 #[.slice (some ⟨b,off,none⟩) n cap,.int .i64 (1024*(s:Int))] X fun e w'=>e= .returned (.tuple #[.int .u64 3,.int .i64 0])∧Below X.heap.size X w'):=by
  refine hid fun X hb=> ?_
  have h1:=WGet_in b off n cap (1024*s) bs hn.symm (by omega) hcap (by omega) X (q2d h hb)
  rw[hcls,show((1024*s:Nat):Int)=1024*(s:Int) by omega] at h1
  exact h1.mono fun e w' h=>⟨h.1,h.2▸Below.refl _ _⟩
 have HC0:Hid (∀X,Below w.heap.size w X→X.cell? ⟨b0,0,none⟩=some (.slice (some ⟨b,off,none⟩) n cap)∧X.cell? ⟨b1,0,none⟩=some (.int .u64 (8*(k:Int)))):=hid fun X hb=>⟨(hb.cell (p:=⟨b0,0,none⟩) (World.block_lt_of_cell? w _ c0)).trans c0,(hb.cell (p:=⟨b1,0,none⟩) (World.block_lt_of_cell? w _ c1)).trans c1⟩
 have IX:Hid (∀X,Calls Tryz.prog 87 #[.int .u64 (8*(k:Int)),.int .i64 3] X fun e w'=>e= .returned (.tuple #[.int .i64 (idxI (8*(k:Int)) 3),.bool true])∧Below X.heap.size X w'):=by
  refine hid fun X=> ?_
  have h1:=q8s (8*(k:Int)) 3 X ha.1 ha.2
  rw[hsb.2.2.2] at h1
  exact h1
 have MY:=hid q4t
 have FI:Hid (∀W,Calls Tryz.prog 88 #[.int .i64 0] W fun e w'=>e= .returned (.bool true)∧W=w'):=hid (fun W=>z3i 0 W)
 have d1:decide ((s:Int)>0)=true:=decide_eq_true (by omega)
 have d2:decide ((s:Int)≤t)=true:=decide_eq_true hst.2.2.1
 have i1:(0:Int)< (s:Int):=by omega
 have i2:(s:Int)≤t:=hst.2.2.1
 have wr:IntKind.i64.wrap (1024*(s:Int))=1024*(s:Int):=IntWalk.i64_in _ (by omega)
 have HH:=hid (⟨h,hcl,hne,hst⟩:_∧_∧_∧_)
 have HA:=hid (⟨hn,hl,hcap,hc63,ha,hk24⟩:_∧_∧_∧_∧_∧_)
 have HK:=hid k2
 clear h hcl hne hst hn hl hcap hc63 ha k2 hX hsb hs0 hlen hcls hs hs1 ht htl hk24 hk0
 go_enter Tryz.func81,Tryz.ntmps81
 go_wp2_with fail
 refine SL.out.mono ?_
 rintro e w2 ⟨rfl,rfl⟩
 go_wp2_with fail
 refine SB.out.mono ?_
 rintro e w2 ⟨rfl,rfl⟩
 go_wp2_with fail
 refine(MY.out w).mono ?_
 rintro e w2 ⟨rfl,rfl⟩
 go_upto_region 3 with fail
 refine q9z 9 (fun listed ac X=>Below w.heap.size w X∧ ∃yy:Nat→Value,z8q (NdG b off n cap s 3) listed yy X∧ac={ tmps:= #[.pointer (some ⟨b0,0,none⟩),.pointer (some ⟨b1,0,none⟩),.pointer (some ⟨b2,0,none⟩),.int .i64 t,.bool true,.int .i64 (s:Int),yy 8,undef,undef,undef,undef,.tuple #[.int .i64 t,.bool true],.slice (some ⟨b,off,none⟩) n cap,.int .i64 (n:Int),.tuple #[.int .i64 t,.bool true],.int .i64 t,.bool true,.int .u64 (8*(k:Int)),.int .i64 (s:Int),.bool true,.bool true,.int .i64 (s:Int),.bool true,.bool true,.bool true,.int .i64 (s:Int),.int .i64 t,.bool true,.bool true,.tuple #[],yy 5,yy 0,yy 1,yy 2,yy 3,yy 4,yy 6,yy 7,undef,undef,undef,undef,undef,undef,undef,undef,undef,undef,undef,undef,undef,undef,undef,undef,undef,undef,undef,undef,undef,undef,undef,undef,undef,undef,undef,undef,undef,undef,undef,undef,undef,undef,undef,undef,undef,undef,undef],defers:=[] }) rfl (by kernel_rfl) ?_ ?_ ?_
 ·exact⟨(Below.refl _ _).drew,fun _=>undef,fun i hi=>(by rw[getD_replicate_false] at hi;cases hi),rfl⟩
 ·rintro listed ac X i op hi ho hun hdep ⟨hbX,yy,hx,rfl⟩
  rcases(by omega:i=0∨i=1∨i=2∨i=3∨i=4∨i=5∨i=6∨i=7∨i=8) with rfl | rfl | rfl | rfl | rfl | rfl | rfl | rfl | rfl
  ·cases ho
   have z:=(HC0.out X hbX).1
   refine q1f rfl rfl (q0k (v:= .slice (some ⟨b,off,none⟩) n cap) ?_ ⟨hbX,upd yy 0 _,hx.step (fun j v h=>h) rfl,rfl⟩)
   go_simp
  ·cases ho
   refine q1f rfl rfl (q0k (v:= .int .i64 (s:Int)) ?_ ⟨hbX,upd yy 1 _,hx.step (fun j v h=>h) rfl,rfl⟩)
   go_simp
  ·cases ho
   have e1:yy 1= .int .i64 (s:Int):=hx 1 (hdep { on:=1,ground:= .data } (by simp) rfl)
   refine q1f rfl rfl (q4l (f:=86) (args:= #[yy 1]) (by kernel_rfl) ?_)
   have C:=HD.out X
   rw[←e1] at C
   refine C.mono ?_
   rintro e X' ⟨rfl,hb1⟩
   exact⟨_,rfl,bx hbX hb1,upd yy 2 _,hx.step NdG.any rfl,rfl⟩
  ·cases ho
   have e2:yy 2= .int .u64 (1024*(s:Int)):=hx 2 (hdep { on:=2,ground:= .data } (by simp) rfl)
   refine q1f rfl rfl (q0k (v:= .int .i64 (1024*(s:Int))) ?_ ⟨hbX,upd yy 3 _,hx.step (fun j v h=>h) rfl,rfl⟩)
   rw[e2]
   go_simp
  ·cases ho
   have e0:yy 0= .slice (some ⟨b,off,none⟩) n cap:=hx 0 (hdep { on:=0,ground:= .data } (by simp) rfl)
   have e3:yy 3= .int .i64 (1024*(s:Int)):=hx 3 (hdep { on:=3,ground:= .data } (by simp) rfl)
   refine q1f rfl rfl (q4l (f:=85) (args:= #[yy 0,yy 3]) (by kernel_rfl) ?_)
   have C:=WG.out X hbX
   rw[←e0,←e3] at C
   refine C.mono ?_
   rintro e X' ⟨rfl,hb1⟩
   exact⟨_,rfl,bx hbX hb1,upd yy 4 _,hx.step NdG.any rfl,rfl⟩
  ·cases ho
   have e4:yy 4= .tuple #[.int .u64 3,.int .i64 0]:=hx 4 (hdep { on:=4,ground:= .data } (by simp) rfl)
   refine q1f rfl rfl (q0k (v:= .tuple #[.int .u64 3,.int .i64 0]) ?_ ⟨hbX,upd yy 5 _,hx.step (fun j v h=>h) rfl,rfl⟩)
   rw[e4]
   go_simp
  ·cases ho
   have e5:yy 5= .tuple #[.int .u64 3,.int .i64 0]:=hx 5 (hdep { on:=5,ground:= .data } (by simp) rfl)
   refine q1f rfl rfl (q0k (v:= .int .u64 3) ?_ ⟨hbX,upd yy 6 _,hx.step (fun j v h=>h) rfl,rfl⟩)
   rw[e5]
   go_simp
  ·cases ho
   have e5:yy 5= .tuple #[.int .u64 3,.int .i64 0]:=hx 5 (hdep { on:=5,ground:= .data } (by simp) rfl)
   refine q1f rfl rfl (q0k (v:= .int .i64 0) ?_ ⟨hbX,upd yy 7 _,hx.step (fun j v h=>h) rfl,rfl⟩)
   rw[e5]
   go_simp
  ·cases ho
   have e6:yy 6= .int .u64 3:=hx 6 (hdep { on:=6,ground:= .data } (by simp) rfl)
   refine q1f rfl rfl (q0k (v:= .int .u64 3) ?_ ⟨hbX,upd yy 8 _,hx.step (fun j v h=>h) rfl,rfl⟩)
   rw[e6]
   go_simp
 ·rintro ac X ⟨hbX,yy,hx,rfl⟩
  have e7:yy 7= .int .i64 0:=hx 7 rfl
  have e8:yy 8= .int .u64 3:=hx 8 rfl
  rw[e7,e8]
  simp only[List.drop_succ_cons,List.drop_zero]
  have HB:=hid hbX
  have c1':=(HC0.out X hbX).2
  clear hx hbX
  go_wp2_with fail
  refine(IX.out X).mono ?_
  rintro e w3 ⟨rfl,hb3⟩
  have HB3:=hid (bx HB.out hb3)
  clear hb3 c1'
  go_wp2_with fail
  refine(FI.out w3).mono ?_
  rintro e w4 ⟨rfl,rfl⟩
  go_wp2_with fail
  refine(MY.out w3).mono ?_
  rintro e w4 ⟨rfl,rfl⟩
  go_upto_region 6 with fail
  obtain⟨L,hL⟩: ∃L:List Value,L=(List.range 24).map fun x=>Value.int .u64 (wAt ((bs.drop (8*k)).take 192) x):=⟨_,rfl⟩
  have BY:Hid (∀X,Calls Tryz.prog 90 #[.int .i64 3] X fun e w'=>e= .returned (.int .i64 192)∧Below X.heap.size X w'):=hid fun X=>z9s 3 X
  have WW:Hid (∀X,Below w3.heap.size w3 X→Calls Tryz.prog 89 #[.slice (some ⟨b,off+8*k,none⟩) 192 (cap-8*k)] X fun e w'=> ∃v,e= .returned (.tuple #[v,.int .i64 0])∧w'.ownsRow w3.heap.size 46 1 v 24 L∧Below X.heap.size X w'):=by
   refine hid fun X hb=> ?_
   have h0:=q2d HH.out.1 (bx HB3.out hb)
   have h1:=h0.cut (8*k) 192 (by have:=HA.out;omega)
   have h2:=v0g b (off+8*k) (cap-8*k) 24 ((bs.drop (8*k)).take 192) (by have:=HA.out;rw[List.length_take,List.length_drop];omega) (by omega) (by have:=HA.out;omega) X ⟨by have:=HA.out;rw[List.length_take,List.length_drop];omega,h1.2⟩
   rw[←hL] at h2
   refine h2.mono ?_
   rintro e w' ⟨v,h3,h4,h5⟩
   exact⟨v,h3,h4.mono hb.size,h5⟩
  have HL:=hid hL
  have y1:(8*(k:Int)).toNat=8*k:=by omega
  have y2:(8*(k:Int)+192).toNat=8*k+192:=by omega
  have y3:IntKind.u64.wrap (8*(k:Int)+192)=8*(k:Int)+192:=by rw[IntKind.wrap_u64];have:=HA.out;omega
  have y4:(8*(k:Int))≤8*(k:Int)+192:=by omega
  have y5:(8*(k:Int)+192)≤(cap:Int):=by have:=HA.out;omega
  have y6:8*k+192≤cap:=by have:=HA.out;omega
  have y7:8*k+192-8*k=192:=by omega
  have y8:IntKind.u64.wrap 192=192:=by decide
  have y9:(0:Int)≤8*(k:Int):=by omega
  have y10:(0:Int)≤8*(k:Int)+192:=by omega
  have y11: ¬cap=8*k:=by omega
  clear hL
  refine q9z 12 (fun listed ac X=>Below w3.heap.size w3 X∧ ∃zz:Nat→Value,z8q (NdH b off n cap k w3.heap.size L) listed zz X∧ac={ tmps:= #[.pointer (some ⟨b0,0,none⟩),.pointer (some ⟨b1,0,none⟩),.pointer (some ⟨b2,0,none⟩),.int .i64 t,.bool true,.int .i64 (s:Int),.int .u64 3,.int .i64 0,.int .i64 (idxI (8*(k:Int)) 3),.bool true,zz 11,.tuple #[.int .i64 t,.bool true],.slice (some ⟨b,off,none⟩) n cap,.int .i64 (n:Int),.tuple #[.int .i64 t,.bool true],.int .i64 t,.bool true,.int .u64 (8*(k:Int)),.int .i64 (s:Int),.bool true,.bool true,.int .i64 (s:Int),.bool true,.bool true,.bool true,.int .i64 (s:Int),.int .i64 t,.bool true,.bool true,.tuple #[],yy 5,yy 0,yy 1,yy 2,yy 3,yy 4,yy 6,.int .i64 0,.tuple #[.int .i64 (idxI (8*(k:Int)) 3),.bool true],.int .u64 (8*(k:Int)),.tuple #[.int .i64 (idxI (8*(k:Int)) 3),.bool true],.int .i64 (idxI (8*(k:Int)) 3),.bool true,.int .i64 0,.bool true,.bool true,.int .u64 3,.bool true,.bool true,.bool true,.bool true,.bool true,.tuple #[],zz 8,zz 0,zz 1,zz 2,zz 3,zz 4,zz 5,zz 6,zz 7,zz 9,zz 10,undef,undef,undef,undef,undef,undef,undef,undef,undef,undef,undef,undef,undef],defers:=[] }) rfl (by kernel_rfl) ?_ ?_ ?_
  ·exact⟨(Below.refl _ _).drew,fun _=>undef,fun i hi=>(by rw[getD_replicate_false] at hi;cases hi),rfl⟩
  ·rintro listed ac X i op hi ho hun hdep ⟨hbX,zz,hx,rfl⟩
   rcases(by omega:i=0∨i=1∨i=2∨i=3∨i=4∨i=5∨i=6∨i=7∨i=8∨i=9∨i=10∨i=11) with rfl | rfl | rfl | rfl | rfl | rfl | rfl | rfl | rfl | rfl | rfl | rfl
   ·cases ho
    have z:=(HC0.out X (bx HB3.out hbX)).1
    refine q1f rfl rfl (q0k (v:= .slice (some ⟨b,off,none⟩) n cap) ?_ ⟨hbX,upd zz 0 _,hx.step (fun j v h=>h) rfl,rfl⟩)
    go_simp
   ·cases ho
    have z:=(HC0.out X (bx HB3.out hbX)).2
    refine q1f rfl rfl (q0k (v:= .int .u64 (8*(k:Int))) ?_ ⟨hbX,upd zz 1 _,hx.step (fun j v h=>h) rfl,rfl⟩)
    go_simp
   ·cases ho
    have z:=(HC0.out X (bx HB3.out hbX)).2
    refine q1f rfl rfl (q0k (v:= .int .u64 (8*(k:Int))) ?_ ⟨hbX,upd zz 2 _,hx.step (fun j v h=>h) rfl,rfl⟩)
    go_simp
   ·cases ho
    refine q1f rfl rfl (q4l (f:=90) (args:= #[.int .i64 3]) (by kernel_rfl) ?_)
    have C:=BY.out X
    refine C.mono ?_
    rintro e X' ⟨rfl,hb1⟩
    exact⟨_,rfl,bx hbX hb1,upd zz 3 _,hx.step (NdH.bel hb1) rfl,rfl⟩
   ·cases ho
    have e3:zz 3= .int .i64 192:=hx 3 (hdep { on:=3,ground:= .data } (by simp) rfl)
    refine q1f rfl rfl (q0k (v:= .int .u64 192) ?_ ⟨hbX,upd zz 4 _,hx.step (fun j v h=>h) rfl,rfl⟩)
    rw[e3]
    go_simp
   ·cases ho
    have e2:zz 2= .int .u64 (8*(k:Int)):=hx 2 (hdep { on:=2,ground:= .data } (by simp) rfl)
    have e4:zz 4= .int .u64 192:=hx 4 (hdep { on:=4,ground:= .data } (by simp) rfl)
    refine q1f rfl rfl (q0k (v:= .int .u64 (8*(k:Int)+192)) ?_ ⟨hbX,upd zz 5 _,hx.step (fun j v h=>h) rfl,rfl⟩)
    rw[e2,e4]
    go_simp
   ·cases ho
    have e0:zz 0= .slice (some ⟨b,off,none⟩) n cap:=hx 0 (hdep { on:=0,ground:= .data } (by simp) rfl)
    have e1:zz 1= .int .u64 (8*(k:Int)):=hx 1 (hdep { on:=1,ground:= .data } (by simp) rfl)
    have e5:zz 5= .int .u64 (8*(k:Int)+192):=hx 5 (hdep { on:=5,ground:= .data } (by simp) rfl)
    refine q1f rfl rfl (q0k (v:= .slice (some ⟨b,off+8*k,none⟩) 192 (cap-8*k)) ?_ ⟨hbX,upd zz 6 _,hx.step (fun j v h=>h) rfl,rfl⟩)
    rw[e0,e1,e5]
    go_simp
   ·cases ho
    have e6:zz 6= .slice (some ⟨b,off+8*k,none⟩) 192 (cap-8*k):=hx 6 (hdep { on:=6,ground:= .data } (by simp) rfl)
    refine q1f rfl rfl (q4l (f:=89) (args:= #[zz 6]) (by kernel_rfl) ?_)
    have C:=WW.out X hbX
    rw[←e6] at C
    refine C.mono ?_
    rintro e X' ⟨v',rfl,hr,hb1⟩
    exact⟨_,rfl,bx hbX hb1,upd zz 7 _,hx.step (NdH.bel hb1) ⟨v',rfl,hr⟩,rfl⟩
   ·cases ho
    obtain⟨v',e7,hr⟩:=hx 7 (hdep { on:=7,ground:= .data } (by simp) rfl)
    refine q1f rfl rfl (q0k (v:= .tuple #[v',.int .i64 0]) ?_ ⟨hbX,upd zz 8 _,hx.step (fun j v h=>h) ⟨v',rfl,hr⟩,rfl⟩)
    rw[e7]
    go_simp
   ·cases ho
    obtain⟨v',e8,hr⟩:=hx 8 (hdep { on:=8,ground:= .data } (by simp) rfl)
    refine q1f rfl rfl (q0k (v:=v') ?_ ⟨hbX,upd zz 9 _,hx.step (fun j v h=>h) hr,rfl⟩)
    rw[e8]
    go_simp
   ·cases ho
    obtain⟨v',e8,hr⟩:=hx 8 (hdep { on:=8,ground:= .data } (by simp) rfl)
    refine q1f rfl rfl (q0k (v:= .int .i64 0) ?_ ⟨hbX,upd zz 10 _,hx.step (fun j v h=>h) rfl,rfl⟩)
    rw[e8]
    go_simp
   ·cases ho
    have hr:X.ownsRow w3.heap.size 46 1 (zz 9) 24 L:=hx 9 (hdep { on:=9,ground:= .data } (by simp) rfl)
    refine q1f rfl rfl (q0k (v:=zz 9) ?_ ⟨hbX,upd zz 11 _,hx.step (fun j v h=>h) hr,rfl⟩)
    go_simp
  ·rintro ac X ⟨hbX,zz,hx,rfl⟩
   have e10:zz 10= .int .i64 0:=hx 10 rfl
   rw[e10]
   simp only[List.drop_succ_cons,List.drop_zero]
   have hr:X.ownsRow w3.heap.size 46 1 (zz 11) 24 L:=hx 11 rfl
   obtain⟨wb,wc,hv⟩: ∃wb wc,zz 11= .slice (some ⟨wb,0,none⟩) 24 wc:=by
    rcases hr.2 with⟨_,h0⟩ | ⟨g,c,cur,e,_⟩
    ·cases h0
    ·exact⟨g,c,e⟩
   rw[hv] at hr ⊢
   have hra:X.rangeAt wb 0 (q0o (q2p bs (8*(k:Int)))).toList:=by
    have h1:=HL.out
    rw[cutWords bs k] at h1
    rw[←h1]
    intro j v hj
    have hjl:j<24:=by
     have h2:=(List.getElem?_eq_some_iff.1 hj).1
     have h3:=hr.1
     omega
    rw[Nat.zero_add,hr.cellAt j (by omega)]
    exact hj
   have HBX:=hid hbX
   have ld3:=v4q hra
   have ar3:Sem.run Tryz.prog (Instr.arrayAt 184 (.slice (some ⟨wb,0,none⟩) 24 wc)) X= .ok (.pointer (some ⟨wb,0,none⟩)) X:=v9v wb 0 wc X
   have OF:=hid (v9i (q2p bs (8*(k:Int))) X (q4b HH.out.1.2.1 _) (by have:=HH.out.2.1.2;unfold q2p;simpa using this))
   rw[←HH.out.2.2.1] at OF
   clear hx hbX hr hra hv
   go_wp2_with fail
   refine(FI.out X).mono ?_
   rintro e w5 ⟨rfl,rfl⟩
   go_wp2_with fail
   refine(MY.out X).mono ?_
   rintro e w5 ⟨rfl,rfl⟩
   go_wp2_with fail
   refine OF.out.mono ?_
   rintro e w6 ⟨rfl,hb6⟩
   have hbb:=bx HB3.out (bx HBX.out hb6)
   obtain⟨W7,hs7,k7,ho7⟩:=z1b nd (HK.out.bel hbb)
   have HF:=hid (⟨k7,(Only.of_below hbb [b2]).trans ho7 (fun x h=>Or.inl h)⟩:_∧_)
   clear k7 ho7 hbb hb6 ld3 ar3
   go_wp2_with fail
   refine(FI.out W7).mono ?_
   rintro e w8 ⟨rfl,rfl⟩
   go_wp2_with fail
   refine(MY.out W7).mono ?_
   rintro e w8 ⟨rfl,rfl⟩
   go_wp2
   refine bodyPost_end (v:= .tuple #[]) (by simp[results,Tryz.results81,go_sem]) rfl ?_
   exact⟨rfl,HF.out⟩
theorem CkNode1_tag (b0 b1 b2 b off n cap:Nat) (bs:List Int) (a:Int) (hn:n=bs.length) (hl:n≤100000) (hcap:n≤cap) (hc63:cap≤9223372036854775807) (ha:0≤a∧a≤18446744073709551615) (h3:clsI bs a=3) (htg: ¬(tagN≤wdI bs a∧wdI bs a≤tagN+15)) (w:World)
  (c0:w.cell? ⟨b0,0,none⟩=some (.slice (some ⟨b,off,none⟩) n cap)) (c1:w.cell? ⟨b1,0,none⟩=some (.int .u64 a)) (k2:Blk w b2 55 (q0x q2w)) (h:q1m w (some ⟨b,off,none⟩) cap bs):
  Calls Tryz.prog 81 #[.pointer (some ⟨b0,0,none⟩),.pointer (some ⟨b1,0,none⟩),.pointer (some ⟨b2,0,none⟩)] w fun e w'=>e= .panicked errC∧Blk w' b2 55 (q0x q2w)∧Only [b2] w w':=by
 have hcl:clsI bs a=3∧ ¬(tagN≤wdI bs a∧wdI bs a≤tagN+15):=⟨h3,htg⟩
 have hne:True:=trivial
 have hsb:0<q1q a∧q1q a≤q0w bs.length∧q1u bs (q1q a).toNat=3∧idxB a 3=true:=by
  have h1:=hcl.1
  have h2:=q5w a
  unfold clsI at h1
  split at h1
  ·cases h1
  ·split at h1
   ·rename_i h3 h4
    refine⟨by omega,by omega,by omega,?_⟩
    have h5:q1u bs (q1q a).toNat=3:=by omega
    rw[h5] at h4
    exact h4.2
   ·cases h1
 have hs0:0<q0w bs.length:=by omega
 have hlen:=q1s hs0
 obtain⟨k,hak,hk24,hk0⟩:=z2q hcl.1 ha.1 hs0
 subst hak
 have hcls:leW ((bs.drop (1024*(q1q (8*(k:Int))).toNat)).take 8)=3:=by
  have h1:=hsb.2.2.1
  unfold q1u at h1
  omega
 obtain⟨s,hs⟩: ∃s:Nat,q1q (8*(k:Int))=(s:Int):=⟨(q1q (8*(k:Int))).toNat,by have:=q5w (8*(k:Int));omega⟩
 have hs1:(q1q (8*(k:Int))).toNat=s:=by omega
 rw[hs1] at hcls
 obtain⟨t,ht⟩: ∃t:Int,t=q0w (n:Int):=⟨_,rfl⟩
 have htl:t=q0w (bs.length:Int):=by rw[ht,hn]
 have hst:0<t∧1≤s∧(s:Int)≤t∧s≤64∧1024*s+1024≤n:=by have:=q5w (8*(k:Int));omega
 have SL:Hid (Calls Tryz.prog 82 #[.int .i64 (n:Int)] w fun e w'=>e= .returned (.tuple #[.int .i64 t,.bool true])∧w=w'):=by
  have h1:=q8h (n:Int) w (by omega) (by omega)
  rw[←ht,decide_eq_true (by omega:0<t)] at h1
  exact hid h1
 have SB:Hid (Calls Tryz.prog 83 #[.int .u64 (8*(k:Int))] w fun e w'=>e= .returned (.int .i64 (s:Int))∧w=w'):=by
  have h1:=z7m (8*(k:Int)) w ha.1 ha.2
  rw[hs] at h1
  exact hid h1
 have HD:Hid (∀X,Calls Tryz.prog 86 #[.int .i64 (s:Int)] X fun e w'=>e= .returned (.int .u64 (1024*(s:Int)))∧Below X.heap.size X w'):=by
  refine hid fun X=> ?_
  have h1:=q5k (s:Int) X
  unfold q1g at h1
  rw[if_pos (by omega)] at h1
  exact h1.mono fun e w' h=>⟨h.1,h.2▸Below.refl _ _⟩
 have WG:Hid (∀X,Below w.heap.size w X→Calls Tryz.prog 85 #[.slice (some ⟨b,off,none⟩) n cap,.int .i64 (1024*(s:Int))] X fun e w'=>e= .returned (.tuple #[.int .u64 3,.int .i64 0])∧Below X.heap.size X w'):=by
  refine hid fun X hb=> ?_
  have h1:=WGet_in b off n cap (1024*s) bs hn.symm (by omega) hcap (by omega) X (q2d h hb)
  rw[hcls,show((1024*s:Nat):Int)=1024*(s:Int) by omega] at h1
  exact h1.mono fun e w' h=>⟨h.1,h.2▸Below.refl _ _⟩
 have HC0:Hid (∀X,Below w.heap.size w X→X.cell? ⟨b0,0,none⟩=some (.slice (some ⟨b,off,none⟩) n cap)∧X.cell? ⟨b1,0,none⟩=some (.int .u64 (8*(k:Int)))):=hid fun X hb=>⟨(hb.cell (p:=⟨b0,0,none⟩) (World.block_lt_of_cell? w _ c0)).trans c0,(hb.cell (p:=⟨b1,0,none⟩) (World.block_lt_of_cell? w _ c1)).trans c1⟩
 have IX:Hid (∀X,Calls Tryz.prog 87 #[.int .u64 (8*(k:Int)),.int .i64 3] X fun e w'=>e= .returned (.tuple #[.int .i64 (idxI (8*(k:Int)) 3),.bool true])∧Below X.heap.size X w'):=by
  refine hid fun X=> ?_
  have h1:=q8s (8*(k:Int)) 3 X ha.1 ha.2
  rw[hsb.2.2.2] at h1
  exact h1
 have MY:=hid q4t
 have FI:Hid (∀W,Calls Tryz.prog 88 #[.int .i64 0] W fun e w'=>e= .returned (.bool true)∧W=w'):=hid (fun W=>z3i 0 W)
 have d1:decide ((s:Int)>0)=true:=decide_eq_true (by omega)
 have d2:decide ((s:Int)≤t)=true:=decide_eq_true hst.2.2.1
 have i1:(0:Int)< (s:Int):=by omega
 have i2:(s:Int)≤t:=hst.2.2.1
 have wr:IntKind.i64.wrap (1024*(s:Int))=1024*(s:Int):=IntWalk.i64_in _ (by omega)
 have HH:=hid (⟨h,hcl,hne,hst⟩:_∧_∧_∧_)
 have HA:=hid (⟨hn,hl,hcap,hc63,ha,hk24⟩:_∧_∧_∧_∧_∧_)
 have HK:=hid k2
 clear h hcl hne hst hn hl hcap hc63 ha k2 h3 htg hsb hs0 hlen hcls hs hs1 ht htl hk24 hk0
 go_enter Tryz.func81,Tryz.ntmps81
 go_wp2_with fail
 refine SL.out.mono ?_
 rintro e w2 ⟨rfl,rfl⟩
 go_wp2_with fail
 refine SB.out.mono ?_
 rintro e w2 ⟨rfl,rfl⟩
 go_wp2_with fail
 refine(MY.out w).mono ?_
 rintro e w2 ⟨rfl,rfl⟩
 go_upto_region 3 with fail
 refine q9z 9 (fun listed ac X=>Below w.heap.size w X∧ ∃yy:Nat→Value,z8q (NdG b off n cap s 3) listed yy X∧ac={ tmps:= #[.pointer (some ⟨b0,0,none⟩),.pointer (some ⟨b1,0,none⟩),.pointer (some ⟨b2,0,none⟩),.int .i64 t,.bool true,.int .i64 (s:Int),yy 8,undef,undef,undef,undef,.tuple #[.int .i64 t,.bool true],.slice (some ⟨b,off,none⟩) n cap,.int .i64 (n:Int),.tuple #[.int .i64 t,.bool true],.int .i64 t,.bool true,.int .u64 (8*(k:Int)),.int .i64 (s:Int),.bool true,.bool true,.int .i64 (s:Int),.bool true,.bool true,.bool true,.int .i64 (s:Int),.int .i64 t,.bool true,.bool true,.tuple #[],yy 5,yy 0,yy 1,yy 2,yy 3,yy 4,yy 6,yy 7,undef,undef,undef,undef,undef,undef,undef,undef,undef,undef,undef,undef,undef,undef,undef,undef,undef,undef,undef,undef,undef,undef,undef,undef,undef,undef,undef,undef,undef,undef,undef,undef,undef,undef,undef,undef,undef,undef,undef],defers:=[] }) rfl (by kernel_rfl) ?_ ?_ ?_
 ·exact⟨(Below.refl _ _).drew,fun _=>undef,fun i hi=>(by rw[getD_replicate_false] at hi;cases hi),rfl⟩
 ·rintro listed ac X i op hi ho hun hdep ⟨hbX,yy,hx,rfl⟩
  rcases(by omega:i=0∨i=1∨i=2∨i=3∨i=4∨i=5∨i=6∨i=7∨i=8) with rfl | rfl | rfl | rfl | rfl | rfl | rfl | rfl | rfl
  ·cases ho
   have z:=(HC0.out X hbX).1
   refine q1f rfl rfl (q0k (v:= .slice (some ⟨b,off,none⟩) n cap) ?_ ⟨hbX,upd yy 0 _,hx.step (fun j v h=>h) rfl,rfl⟩)
   go_simp
  ·cases ho
   refine q1f rfl rfl (q0k (v:= .int .i64 (s:Int)) ?_ ⟨hbX,upd yy 1 _,hx.step (fun j v h=>h) rfl,rfl⟩)
   go_simp
  ·cases ho
   have e1:yy 1= .int .i64 (s:Int):=hx 1 (hdep { on:=1,ground:= .data } (by simp) rfl)
   refine q1f rfl rfl (q4l (f:=86) (args:= #[yy 1]) (by kernel_rfl) ?_)
   have C:=HD.out X
   rw[←e1] at C
   refine C.mono ?_
   rintro e X' ⟨rfl,hb1⟩
   exact⟨_,rfl,bx hbX hb1,upd yy 2 _,hx.step NdG.any rfl,rfl⟩
  ·cases ho
   have e2:yy 2= .int .u64 (1024*(s:Int)):=hx 2 (hdep { on:=2,ground:= .data } (by simp) rfl)
   refine q1f rfl rfl (q0k (v:= .int .i64 (1024*(s:Int))) ?_ ⟨hbX,upd yy 3 _,hx.step (fun j v h=>h) rfl,rfl⟩)
   rw[e2]
   go_simp
  ·cases ho
   have e0:yy 0= .slice (some ⟨b,off,none⟩) n cap:=hx 0 (hdep { on:=0,ground:= .data } (by simp) rfl)
   have e3:yy 3= .int .i64 (1024*(s:Int)):=hx 3 (hdep { on:=3,ground:= .data } (by simp) rfl)
   refine q1f rfl rfl (q4l (f:=85) (args:= #[yy 0,yy 3]) (by kernel_rfl) ?_)
   have C:=WG.out X hbX
   rw[←e0,←e3] at C
   refine C.mono ?_
   rintro e X' ⟨rfl,hb1⟩
   exact⟨_,rfl,bx hbX hb1,upd yy 4 _,hx.step NdG.any rfl,rfl⟩
  ·cases ho
   have e4:yy 4= .tuple #[.int .u64 3,.int .i64 0]:=hx 4 (hdep { on:=4,ground:= .data } (by simp) rfl)
   refine q1f rfl rfl (q0k (v:= .tuple #[.int .u64 3,.int .i64 0]) ?_ ⟨hbX,upd yy 5 _,hx.step (fun j v h=>h) rfl,rfl⟩)
   rw[e4]
   go_simp
  ·cases ho
   have e5:yy 5= .tuple #[.int .u64 3,.int .i64 0]:=hx 5 (hdep { on:=5,ground:= .data } (by simp) rfl)
   refine q1f rfl rfl (q0k (v:= .int .u64 3) ?_ ⟨hbX,upd yy 6 _,hx.step (fun j v h=>h) rfl,rfl⟩)
   rw[e5]
   go_simp
  ·cases ho
   have e5:yy 5= .tuple #[.int .u64 3,.int .i64 0]:=hx 5 (hdep { on:=5,ground:= .data } (by simp) rfl)
   refine q1f rfl rfl (q0k (v:= .int .i64 0) ?_ ⟨hbX,upd yy 7 _,hx.step (fun j v h=>h) rfl,rfl⟩)
   rw[e5]
   go_simp
  ·cases ho
   have e6:yy 6= .int .u64 3:=hx 6 (hdep { on:=6,ground:= .data } (by simp) rfl)
   refine q1f rfl rfl (q0k (v:= .int .u64 3) ?_ ⟨hbX,upd yy 8 _,hx.step (fun j v h=>h) rfl,rfl⟩)
   rw[e6]
   go_simp
 ·rintro ac X ⟨hbX,yy,hx,rfl⟩
  have e7:yy 7= .int .i64 0:=hx 7 rfl
  have e8:yy 8= .int .u64 3:=hx 8 rfl
  rw[e7,e8]
  simp only[List.drop_succ_cons,List.drop_zero]
  have HB:=hid hbX
  have c1':=(HC0.out X hbX).2
  clear hx hbX
  go_wp2_with fail
  refine(IX.out X).mono ?_
  rintro e w3 ⟨rfl,hb3⟩
  have HB3:=hid (bx HB.out hb3)
  clear hb3 c1'
  go_wp2_with fail
  refine(FI.out w3).mono ?_
  rintro e w4 ⟨rfl,rfl⟩
  go_wp2_with fail
  refine(MY.out w3).mono ?_
  rintro e w4 ⟨rfl,rfl⟩
  go_upto_region 6 with fail
  obtain⟨L,hL⟩: ∃L:List Value,L=(List.range 24).map fun x=>Value.int .u64 (wAt ((bs.drop (8*k)).take 192) x):=⟨_,rfl⟩
  have BY:Hid (∀X,Calls Tryz.prog 90 #[.int .i64 3] X fun e w'=>e= .returned (.int .i64 192)∧Below X.heap.size X w'):=hid fun X=>z9s 3 X
  have WW:Hid (∀X,Below w3.heap.size w3 X→Calls Tryz.prog 89 #[.slice (some ⟨b,off+8*k,none⟩) 192 (cap-8*k)] X fun e w'=> ∃v,e= .returned (.tuple #[v,.int .i64 0])∧w'.ownsRow w3.heap.size 46 1 v 24 L∧Below X.heap.size X w'):=by
   refine hid fun X hb=> ?_
   have h0:=q2d HH.out.1 (bx HB3.out hb)
   have h1:=h0.cut (8*k) 192 (by have:=HA.out;omega)
   have h2:=v0g b (off+8*k) (cap-8*k) 24 ((bs.drop (8*k)).take 192) (by have:=HA.out;rw[List.length_take,List.length_drop];omega) (by omega) (by have:=HA.out;omega) X ⟨by have:=HA.out;rw[List.length_take,List.length_drop];omega,h1.2⟩
   rw[←hL] at h2
   refine h2.mono ?_
   rintro e w' ⟨v,h3,h4,h5⟩
   exact⟨v,h3,h4.mono hb.size,h5⟩
  have HL:=hid hL
  have y1:(8*(k:Int)).toNat=8*k:=by omega
  have y2:(8*(k:Int)+192).toNat=8*k+192:=by omega
  have y3:IntKind.u64.wrap (8*(k:Int)+192)=8*(k:Int)+192:=by rw[IntKind.wrap_u64];have:=HA.out;omega
  have y4:(8*(k:Int))≤8*(k:Int)+192:=by omega
  have y5:(8*(k:Int)+192)≤(cap:Int):=by have:=HA.out;omega
  have y6:8*k+192≤cap:=by have:=HA.out;omega
  have y7:8*k+192-8*k=192:=by omega
  have y8:IntKind.u64.wrap 192=192:=by decide
  have y9:(0:Int)≤8*(k:Int):=by omega
  have y10:(0:Int)≤8*(k:Int)+192:=by omega
  have y11: ¬cap=8*k:=by omega
  clear hL
  refine q9z 12 (fun listed ac X=>Below w3.heap.size w3 X∧ ∃zz:Nat→Value,z8q (NdH b off n cap k w3.heap.size L) listed zz X∧ac={ tmps:= #[.pointer (some ⟨b0,0,none⟩),.pointer (some ⟨b1,0,none⟩),.pointer (some ⟨b2,0,none⟩),.int .i64 t,.bool true,.int .i64 (s:Int),.int .u64 3,.int .i64 0,.int .i64 (idxI (8*(k:Int)) 3),.bool true,zz 11,.tuple #[.int .i64 t,.bool true],.slice (some ⟨b,off,none⟩) n cap,.int .i64 (n:Int),.tuple #[.int .i64 t,.bool true],.int .i64 t,.bool true,.int .u64 (8*(k:Int)),.int .i64 (s:Int),.bool true,.bool true,.int .i64 (s:Int),.bool true,.bool true,.bool true,.int .i64 (s:Int),.int .i64 t,.bool true,.bool true,.tuple #[],yy 5,yy 0,yy 1,yy 2,yy 3,yy 4,yy 6,.int .i64 0,.tuple #[.int .i64 (idxI (8*(k:Int)) 3),.bool true],.int .u64 (8*(k:Int)),.tuple #[.int .i64 (idxI (8*(k:Int)) 3),.bool true],.int .i64 (idxI (8*(k:Int)) 3),.bool true,.int .i64 0,.bool true,.bool true,.int .u64 3,.bool true,.bool true,.bool true,.bool true,.bool true,.tuple #[],zz 8,zz 0,zz 1,zz 2,zz 3,zz 4,zz 5,zz 6,zz 7,zz 9,zz 10,undef,undef,undef,undef,undef,undef,undef,undef,undef,undef,undef,undef,undef],defers:=[] }) rfl (by kernel_rfl) ?_ ?_ ?_
  ·exact⟨(Below.refl _ _).drew,fun _=>undef,fun i hi=>(by rw[getD_replicate_false] at hi;cases hi),rfl⟩
  ·rintro listed ac X i op hi ho hun hdep ⟨hbX,zz,hx,rfl⟩
   rcases(by omega:i=0∨i=1∨i=2∨i=3∨i=4∨i=5∨i=6∨i=7∨i=8∨i=9∨i=10∨i=11) with rfl | rfl | rfl | rfl | rfl | rfl | rfl | rfl | rfl | rfl | rfl | rfl
   ·cases ho
    have z:=(HC0.out X (bx HB3.out hbX)).1
    refine q1f rfl rfl (q0k (v:= .slice (some ⟨b,off,none⟩) n cap) ?_ ⟨hbX,upd zz 0 _,hx.step (fun j v h=>h) rfl,rfl⟩)
    go_simp
   ·cases ho
    have z:=(HC0.out X (bx HB3.out hbX)).2
    refine q1f rfl rfl (q0k (v:= .int .u64 (8*(k:Int))) ?_ ⟨hbX,upd zz 1 _,hx.step (fun j v h=>h) rfl,rfl⟩)
    go_simp
   ·cases ho
    have z:=(HC0.out X (bx HB3.out hbX)).2
    refine q1f rfl rfl (q0k (v:= .int .u64 (8*(k:Int))) ?_ ⟨hbX,upd zz 2 _,hx.step (fun j v h=>h) rfl,rfl⟩)
    go_simp
   ·cases ho
    refine q1f rfl rfl (q4l (f:=90) (args:= #[.int .i64 3]) (by kernel_rfl) ?_)
    have C:=BY.out X
    refine C.mono ?_
    rintro e X' ⟨rfl,hb1⟩
    exact⟨_,rfl,bx hbX hb1,upd zz 3 _,hx.step (NdH.bel hb1) rfl,rfl⟩
   ·cases ho
    have e3:zz 3= .int .i64 192:=hx 3 (hdep { on:=3,ground:= .data } (by simp) rfl)
    refine q1f rfl rfl (q0k (v:= .int .u64 192) ?_ ⟨hbX,upd zz 4 _,hx.step (fun j v h=>h) rfl,rfl⟩)
    rw[e3]
    go_simp
   ·cases ho
    have e2:zz 2= .int .u64 (8*(k:Int)):=hx 2 (hdep { on:=2,ground:= .data } (by simp) rfl)
    have e4:zz 4= .int .u64 192:=hx 4 (hdep { on:=4,ground:= .data } (by simp) rfl)
    refine q1f rfl rfl (q0k (v:= .int .u64 (8*(k:Int)+192)) ?_ ⟨hbX,upd zz 5 _,hx.step (fun j v h=>h) rfl,rfl⟩)
    rw[e2,e4]
    go_simp
   ·cases ho
    have e0:zz 0= .slice (some ⟨b,off,none⟩) n cap:=hx 0 (hdep { on:=0,ground:= .data } (by simp) rfl)
    have e1:zz 1= .int .u64 (8*(k:Int)):=hx 1 (hdep { on:=1,ground:= .data } (by simp) rfl)
    have e5:zz 5= .int .u64 (8*(k:Int)+192):=hx 5 (hdep { on:=5,ground:= .data } (by simp) rfl)
    refine q1f rfl rfl (q0k (v:= .slice (some ⟨b,off+8*k,none⟩) 192 (cap-8*k)) ?_ ⟨hbX,upd zz 6 _,hx.step (fun j v h=>h) rfl,rfl⟩)
    rw[e0,e1,e5]
    go_simp
   ·cases ho
    have e6:zz 6= .slice (some ⟨b,off+8*k,none⟩) 192 (cap-8*k):=hx 6 (hdep { on:=6,ground:= .data } (by simp) rfl)
    refine q1f rfl rfl (q4l (f:=89) (args:= #[zz 6]) (by kernel_rfl) ?_)
    have C:=WW.out X hbX
    rw[←e6] at C
    refine C.mono ?_
    rintro e X' ⟨v',rfl,hr,hb1⟩
    exact⟨_,rfl,bx hbX hb1,upd zz 7 _,hx.step (NdH.bel hb1) ⟨v',rfl,hr⟩,rfl⟩
   ·cases ho
    obtain⟨v',e7,hr⟩:=hx 7 (hdep { on:=7,ground:= .data } (by simp) rfl)
    refine q1f rfl rfl (q0k (v:= .tuple #[v',.int .i64 0]) ?_ ⟨hbX,upd zz 8 _,hx.step (fun j v h=>h) ⟨v',rfl,hr⟩,rfl⟩)
    rw[e7]
    go_simp
   ·cases ho
    obtain⟨v',e8,hr⟩:=hx 8 (hdep { on:=8,ground:= .data } (by simp) rfl)
    refine q1f rfl rfl (q0k (v:=v') ?_ ⟨hbX,upd zz 9 _,hx.step (fun j v h=>h) hr,rfl⟩)
    rw[e8]
    go_simp
   ·cases ho
    obtain⟨v',e8,hr⟩:=hx 8 (hdep { on:=8,ground:= .data } (by simp) rfl)
    refine q1f rfl rfl (q0k (v:= .int .i64 0) ?_ ⟨hbX,upd zz 10 _,hx.step (fun j v h=>h) rfl,rfl⟩)
    rw[e8]
    go_simp
   ·cases ho
    have hr:X.ownsRow w3.heap.size 46 1 (zz 9) 24 L:=hx 9 (hdep { on:=9,ground:= .data } (by simp) rfl)
    refine q1f rfl rfl (q0k (v:=zz 9) ?_ ⟨hbX,upd zz 11 _,hx.step (fun j v h=>h) hr,rfl⟩)
    go_simp
  ·rintro ac X ⟨hbX,zz,hx,rfl⟩
   have e10:zz 10= .int .i64 0:=hx 10 rfl
   rw[e10]
   simp only[List.drop_succ_cons,List.drop_zero]
   have hr:X.ownsRow w3.heap.size 46 1 (zz 11) 24 L:=hx 11 rfl
   obtain⟨wb,wc,hv⟩: ∃wb wc,zz 11= .slice (some ⟨wb,0,none⟩) 24 wc:=by
    rcases hr.2 with⟨_,h0⟩ | ⟨g,c,cur,e,_⟩
    ·cases h0
    ·exact⟨g,c,e⟩
   rw[hv] at hr ⊢
   have hra:X.rangeAt wb 0 (q0o (q2p bs (8*(k:Int)))).toList:=by
    have h1:=HL.out
    rw[cutWords bs k] at h1
    rw[←h1]
    intro j v hj
    have hjl:j<24:=by
     have h2:=(List.getElem?_eq_some_iff.1 hj).1
     have h3:=hr.1
     omega
    rw[Nat.zero_add,hr.cellAt j (by omega)]
    exact hj
   have HBX:=hid hbX
   have ld3:=v4q hra
   have ar3:Sem.run Tryz.prog (Instr.arrayAt 184 (.slice (some ⟨wb,0,none⟩) 24 wc)) X= .ok (.pointer (some ⟨wb,0,none⟩)) X:=v9v wb 0 wc X
   have OF:=hid (v9n (q2p bs (8*(k:Int))) X (by have:=HH.out.2.1.2;unfold q2p;simpa using this))
   have FN:Hid (∀W,Calls Tryz.prog 88 #[.int .i64 11] W fun e w'=>e= .returned (.bool false)∧W=w'):=hid (fun W=>z3i 11 W)
   have MN:=hid q6f
   clear hx hbX hr hra hv
   go_wp2_with fail
   refine(FI.out X).mono ?_
   rintro e w5 ⟨rfl,rfl⟩
   go_wp2_with fail
   refine(MY.out X).mono ?_
   rintro e w5 ⟨rfl,rfl⟩
   go_wp2_with fail
   refine OF.out.mono ?_
   rintro e w6 ⟨rfl,hb6⟩
   have hbb:=bx HB3.out (bx HBX.out hb6)
   obtain⟨W7,hs7,k7,ho7⟩:=z1b q2w (HK.out.bel hbb)
   have HF:=hid (⟨k7,(Only.of_below hbb [b2]).trans ho7 (fun x h=>Or.inl h)⟩:_∧_)
   clear k7 ho7 hbb hb6 ld3 ar3
   go_wp2_with fail
   refine(FN.out W7).mono ?_
   rintro e w8 ⟨rfl,rfl⟩
   go_wp2_with fail
   refine(MN.out W7).mono ?_
   rintro e w8 ⟨rfl,rfl⟩
   exact⟨rfl,rfl,HF.out⟩
theorem CkNode1_cls (b0 b1 b2 b off n cap:Nat) (bs:List Int) (a:Int) (hn:n=bs.length) (hl:n≤100000) (hcap:n≤cap) (ha:0≤a∧a≤18446744073709551615) (hin:0<q0w (n:Int)∧0<q1q a∧q1q a≤q0w (n:Int)) (hno: ¬(leW ((bs.drop (1024*(q1q a).toNat)).take 8)=3∧idxB a 3=true)) (w:World)
  (c0:w.cell? ⟨b0,0,none⟩=some (.slice (some ⟨b,off,none⟩) n cap)) (c1:w.cell? ⟨b1,0,none⟩=some (.int .u64 a)) (h:q1m w (some ⟨b,off,none⟩) cap bs):
  Calls Tryz.prog 81 #[.pointer (some ⟨b0,0,none⟩),.pointer (some ⟨b1,0,none⟩),.pointer (some ⟨b2,0,none⟩)] w fun e w'=>e= .panicked errC∧Below w.heap.size w w':=by
 obtain⟨s,hs⟩: ∃s:Nat,q1q a=(s:Int):=⟨(q1q a).toNat,by have:=q5w a;omega⟩
 have hs1:(q1q a).toNat=s:=by omega
 rw[hs1] at hno
 obtain⟨cw,hcls⟩: ∃cw,leW ((bs.drop (1024*s)).take 8)=cw:=⟨_,rfl⟩
 rw[hcls] at hno
 obtain⟨ix,hix⟩: ∃ix,idxB a 3=ix:=⟨_,rfl⟩
 rw[hix] at hno
 obtain⟨t,ht⟩: ∃t:Int,t=q0w (n:Int):=⟨_,rfl⟩
 have hlen:=q1s (show 0<q0w (bs.length:Int) by rw[←hn];exact hin.1)
 have htl:t=q0w (bs.length:Int):=by rw[ht,hn]
 have hst:0<t∧1≤s∧(s:Int)≤t∧s≤64∧1024*s+1024≤n:=by have:=q5w a;omega
 have SL:Hid (Calls Tryz.prog 82 #[.int .i64 (n:Int)] w fun e w'=>e= .returned (.tuple #[.int .i64 t,.bool true])∧w=w'):=by
  have h1:=q8h (n:Int) w (by omega) (by omega)
  rw[←ht,decide_eq_true (by omega:0<t)] at h1
  exact hid h1
 have SB:Hid (Calls Tryz.prog 83 #[.int .u64 a] w fun e w'=>e= .returned (.int .i64 (s:Int))∧w=w'):=by
  have h1:=z7m a w ha.1 ha.2
  rw[hs] at h1
  exact hid h1
 have HD:Hid (∀X,Calls Tryz.prog 86 #[.int .i64 (s:Int)] X fun e w'=>e= .returned (.int .u64 (1024*(s:Int)))∧Below X.heap.size X w'):=by
  refine hid fun X=> ?_
  have h1:=q5k (s:Int) X
  unfold q1g at h1
  rw[if_pos (by omega)] at h1
  exact h1.mono fun e w' h=>⟨h.1,h.2▸Below.refl _ _⟩
 have WG:Hid (∀X,Below w.heap.size w X→Calls Tryz.prog 85 #[.slice (some ⟨b,off,none⟩) n cap,.int .i64 (1024*(s:Int))] X fun e w'=>e= .returned (.tuple #[.int .u64 cw,.int .i64 0])∧Below X.heap.size X w'):=by
  refine hid fun X hb=> ?_
  have h1:=WGet_in b off n cap (1024*s) bs hn.symm (by omega) hcap (by omega) X (q2d h hb)
  rw[hcls,show((1024*s:Nat):Int)=1024*(s:Int) by omega] at h1
  exact h1.mono fun e w' h=>⟨h.1,h.2▸Below.refl _ _⟩
 have HC0:Hid (∀X,Below w.heap.size w X→X.cell? ⟨b0,0,none⟩=some (.slice (some ⟨b,off,none⟩) n cap)∧X.cell? ⟨b1,0,none⟩=some (.int .u64 a)):=hid fun X hb=>⟨(hb.cell (p:=⟨b0,0,none⟩) (World.block_lt_of_cell? w _ c0)).trans c0,(hb.cell (p:=⟨b1,0,none⟩) (World.block_lt_of_cell? w _ c1)).trans c1⟩
 have IX:Hid (∀X,Calls Tryz.prog 87 #[.int .u64 a,.int .i64 3] X fun e w'=>e= .returned (.tuple #[.int .i64 (idxI a 3),.bool ix])∧Below X.heap.size X w'):=by
  refine hid fun X=> ?_
  have h1:=q8s a 3 X ha.1 ha.2
  rw[hix] at h1
  exact h1
 have MY:=hid q4t
 have MN:=hid q6f
 have HNO:=hid hno
 have FI:Hid (∀W,Calls Tryz.prog 88 #[.int .i64 0] W fun e w'=>e= .returned (.bool true)∧W=w'):=hid (fun W=>z3i 0 W)
 have d1:decide ((s:Int)>0)=true:=decide_eq_true (by omega)
 have d2:decide ((s:Int)≤t)=true:=decide_eq_true hst.2.2.1
 have i1:(0:Int)< (s:Int):=by omega
 have i2:(s:Int)≤t:=hst.2.2.1
 have wr:IntKind.i64.wrap (1024*(s:Int))=1024*(s:Int):=IntWalk.i64_in _ (by omega)
 clear h hst hn hl hcap ha hin hno hlen hcls hs hs1 ht htl hix
 go_enter Tryz.func81,Tryz.ntmps81
 go_wp2_with fail
 refine SL.out.mono ?_
 rintro e w2 ⟨rfl,rfl⟩
 go_wp2_with fail
 refine SB.out.mono ?_
 rintro e w2 ⟨rfl,rfl⟩
 go_wp2_with fail
 refine(MY.out w).mono ?_
 rintro e w2 ⟨rfl,rfl⟩
 go_upto_region 3 with fail
 refine q9z 9 (fun listed ac X=>Below w.heap.size w X∧ ∃yy:Nat→Value,z8q (NdG b off n cap s cw) listed yy X∧ac={ tmps:= #[.pointer (some ⟨b0,0,none⟩),.pointer (some ⟨b1,0,none⟩),.pointer (some ⟨b2,0,none⟩),.int .i64 t,.bool true,.int .i64 (s:Int),yy 8,undef,undef,undef,undef,.tuple #[.int .i64 t,.bool true],.slice (some ⟨b,off,none⟩) n cap,.int .i64 (n:Int),.tuple #[.int .i64 t,.bool true],.int .i64 t,.bool true,.int .u64 a,.int .i64 (s:Int),.bool true,.bool true,.int .i64 (s:Int),.bool true,.bool true,.bool true,.int .i64 (s:Int),.int .i64 t,.bool true,.bool true,.tuple #[],yy 5,yy 0,yy 1,yy 2,yy 3,yy 4,yy 6,yy 7,undef,undef,undef,undef,undef,undef,undef,undef,undef,undef,undef,undef,undef,undef,undef,undef,undef,undef,undef,undef,undef,undef,undef,undef,undef,undef,undef,undef,undef,undef,undef,undef,undef,undef,undef,undef,undef,undef,undef],defers:=[] }) rfl (by kernel_rfl) ?_ ?_ ?_
 ·exact⟨(Below.refl _ _).drew,fun _=>undef,fun i hi=>(by rw[getD_replicate_false] at hi;cases hi),rfl⟩
 ·rintro listed ac X i op hi ho hun hdep ⟨hbX,yy,hx,rfl⟩
  rcases(by omega:i=0∨i=1∨i=2∨i=3∨i=4∨i=5∨i=6∨i=7∨i=8) with rfl | rfl | rfl | rfl | rfl | rfl | rfl | rfl | rfl
  ·cases ho
   have z:=(HC0.out X hbX).1
   refine q1f rfl rfl (q0k (v:= .slice (some ⟨b,off,none⟩) n cap) ?_ ⟨hbX,upd yy 0 _,hx.step (fun j v h=>h) rfl,rfl⟩)
   go_simp
  ·cases ho
   refine q1f rfl rfl (q0k (v:= .int .i64 (s:Int)) ?_ ⟨hbX,upd yy 1 _,hx.step (fun j v h=>h) rfl,rfl⟩)
   go_simp
  ·cases ho
   have e1:yy 1= .int .i64 (s:Int):=hx 1 (hdep { on:=1,ground:= .data } (by simp) rfl)
   refine q1f rfl rfl (q4l (f:=86) (args:= #[yy 1]) (by kernel_rfl) ?_)
   have C:=HD.out X
   rw[←e1] at C
   refine C.mono ?_
   rintro e X' ⟨rfl,hb1⟩
   exact⟨_,rfl,bx hbX hb1,upd yy 2 _,hx.step (NdG.any) rfl,rfl⟩
  ·cases ho
   have e2:yy 2= .int .u64 (1024*(s:Int)):=hx 2 (hdep { on:=2,ground:= .data } (by simp) rfl)
   refine q1f rfl rfl (q0k (v:= .int .i64 (1024*(s:Int))) ?_ ⟨hbX,upd yy 3 _,hx.step (fun j v h=>h) rfl,rfl⟩)
   rw[e2]
   go_simp
  ·cases ho
   have e0:yy 0= .slice (some ⟨b,off,none⟩) n cap:=hx 0 (hdep { on:=0,ground:= .data } (by simp) rfl)
   have e3:yy 3= .int .i64 (1024*(s:Int)):=hx 3 (hdep { on:=3,ground:= .data } (by simp) rfl)
   refine q1f rfl rfl (q4l (f:=85) (args:= #[yy 0,yy 3]) (by kernel_rfl) ?_)
   have C:=WG.out X hbX
   rw[←e0,←e3] at C
   refine C.mono ?_
   rintro e X' ⟨rfl,hb1⟩
   exact⟨_,rfl,bx hbX hb1,upd yy 4 _,hx.step (NdG.any) rfl,rfl⟩
  ·cases ho
   have e4:yy 4= .tuple #[.int .u64 cw,.int .i64 0]:=hx 4 (hdep { on:=4,ground:= .data } (by simp) rfl)
   refine q1f rfl rfl (q0k (v:= .tuple #[.int .u64 cw,.int .i64 0]) ?_ ⟨hbX,upd yy 5 _,hx.step (fun j v h=>h) rfl,rfl⟩)
   rw[e4]
   go_simp
  ·cases ho
   have e5:yy 5= .tuple #[.int .u64 cw,.int .i64 0]:=hx 5 (hdep { on:=5,ground:= .data } (by simp) rfl)
   refine q1f rfl rfl (q0k (v:= .int .u64 cw) ?_ ⟨hbX,upd yy 6 _,hx.step (fun j v h=>h) rfl,rfl⟩)
   rw[e5]
   go_simp
  ·cases ho
   have e5:yy 5= .tuple #[.int .u64 cw,.int .i64 0]:=hx 5 (hdep { on:=5,ground:= .data } (by simp) rfl)
   refine q1f rfl rfl (q0k (v:= .int .i64 0) ?_ ⟨hbX,upd yy 7 _,hx.step (fun j v h=>h) rfl,rfl⟩)
   rw[e5]
   go_simp
  ·cases ho
   have e6:yy 6= .int .u64 cw:=hx 6 (hdep { on:=6,ground:= .data } (by simp) rfl)
   refine q1f rfl rfl (q0k (v:= .int .u64 cw) ?_ ⟨hbX,upd yy 8 _,hx.step (fun j v h=>h) rfl,rfl⟩)
   rw[e6]
   go_simp
 ·rintro ac X ⟨hbX,yy,hx,rfl⟩
  have e7:yy 7= .int .i64 0:=hx 7 rfl
  have e8:yy 8= .int .u64 cw:=hx 8 rfl
  rw[e7,e8]
  simp only[List.drop_succ_cons,List.drop_zero]
  have HB:=hid hbX
  have c1':=(HC0.out X hbX).2
  clear hx hbX
  go_wp2_with fail
  refine(IX.out X).mono ?_
  rintro e w3 ⟨rfl,hb3⟩
  have HB3:=hid (bx HB.out hb3)
  clear hb3 c1'
  go_wp2_with fail
  refine(FI.out w3).mono ?_
  rintro e w4 ⟨rfl,rfl⟩
  by_cases hc3:cw=3
  ·subst hc3
   obtain rfl:ix=false:=by cases ix with | false=>rfl | true=>exact absurd ⟨rfl,rfl⟩ HNO.out
   go_wp2_with fail
   refine(MN.out w3).mono ?_
   rintro e w4 ⟨rfl,rfl⟩
   exact⟨rfl,rfl,HB3.out⟩
  ·have q3:(cw==3)=false:=by simpa using hc3
   go_wp2_with fail
   refine(MN.out w3).mono ?_
   rintro e w4 ⟨rfl,rfl⟩
   exact⟨rfl,rfl,HB3.out⟩
theorem CkNode1_out (b0 b1 b2 b off n cap:Nat) (a:Int) (hl:n≤100000) (ha:0≤a∧a≤18446744073709551615) (ho: ¬(0<q0w (n:Int)∧0<q1q a∧q1q a≤q0w (n:Int))) (w:World)
  (c0:w.cell? ⟨b0,0,none⟩=some (.slice (some ⟨b,off,none⟩) n cap)) (c1:w.cell? ⟨b1,0,none⟩=some (.int .u64 a)):
  Calls Tryz.prog 81 #[.pointer (some ⟨b0,0,none⟩),.pointer (some ⟨b1,0,none⟩),.pointer (some ⟨b2,0,none⟩)] w fun e w'=>e= .panicked errC∧w'=w:=by
 obtain⟨s,hs⟩: ∃s:Nat,q1q a=(s:Int):=⟨(q1q a).toNat,by have:=q5w a;omega⟩
 obtain⟨t,ht⟩: ∃t:Int,t=q0w (n:Int):=⟨_,rfl⟩
 rw[←ht,hs] at ho
 have SB:Hid (Calls Tryz.prog 83 #[.int .u64 a] w fun e w'=>e= .returned (.int .i64 (s:Int))∧w=w'):=by
  have h1:=z7m a w ha.1 ha.2
  rw[hs] at h1
  exact hid h1
 have MN:=hid q6f
 obtain⟨q,hq⟩: ∃q:Bool,q=decide (0<t):=⟨_,rfl⟩
 have SL:Hid (Calls Tryz.prog 82 #[.int .i64 (n:Int)] w fun e w'=>e= .returned (.tuple #[.int .i64 t,.bool q])∧w=w'):=by
  have h1:=q8h (n:Int) w (by omega) (by omega)
  rw[←ht,←hq] at h1
  exact hid h1
 clear ha hs ht hl
 cases q with
 | false=>
  clear ho hq
  go_enter Tryz.func81,Tryz.ntmps81
  go_wp2_with fail
  refine SL.out.mono ?_
  rintro e w2 ⟨rfl,rfl⟩
  go_wp2_with fail
  refine SB.out.mono ?_
  rintro e w2 ⟨rfl,rfl⟩
  go_wp2_with fail
  refine(MN.out w).mono ?_
  rintro e w2 ⟨rfl,rfl⟩
  exact⟨rfl,rfl,rfl⟩
 | true=>
  have ht0:0<t:=by simpa using hq.symm
  by_cases hs0:0<s
  ·have d1:decide ((s:Int)>0)=true:=decide_eq_true (by omega)
   have i1:(0:Int)< (s:Int):=by omega
   have i2: ¬(s:Int)≤t:=by omega
   have d2:decide ((s:Int)≤t)=false:=decide_eq_false i2
   clear ho hq
   go_enter Tryz.func81,Tryz.ntmps81
   go_wp2_with fail
   refine SL.out.mono ?_
   rintro e w2 ⟨rfl,rfl⟩
   go_wp2_with fail
   refine SB.out.mono ?_
   rintro e w2 ⟨rfl,rfl⟩
   go_wp2_with fail
   refine(MN.out w).mono ?_
   rintro e w2 ⟨rfl,rfl⟩
   exact⟨rfl,rfl,rfl⟩
  ·obtain rfl:s=0:=by omega
   clear ho hq
   go_enter Tryz.func81,Tryz.ntmps81
   go_wp2_with fail
   refine SL.out.mono ?_
   rintro e w2 ⟨rfl,rfl⟩
   go_wp2_with fail
   refine SB.out.mono ?_
   rintro e w2 ⟨rfl,rfl⟩
   go_wp2_with fail
   refine(MN.out w).mono ?_
   rintro e w2 ⟨rfl,rfl⟩
   exact⟨rfl,rfl,rfl⟩
def NdYes (bs:List Int) (a:Int) (b2:Nat) (w W:World):Prop:= ∃nd,q1y bs a=some nd∧Blk W b2 55 (q0x nd)∧Only [b2] w W
def NdBad (bs:List Int) (a:Int) (b2:Nat) (w W:World):Prop:=q1y bs a=none∧Blk W b2 55 (q0x q2w)∧Only [b2] w W
theorem CkNode1_z (b0 b1 b2 b off n cap:Nat) (bs:List Int) (a:Int) (hn:n=bs.length) (hl:n≤100000) (hcap:n≤cap) (hc63:cap≤9223372036854775807) (ha:0≤a∧a≤18446744073709551615) (w:World)
  (c0:w.cell? ⟨b0,0,none⟩=some (.slice (some ⟨b,off,none⟩) n cap)) (c1:w.cell? ⟨b1,0,none⟩=some (.int .u64 a)) (k2:Blk w b2 55 (q0x q2w)) (h:q1m w (some ⟨b,off,none⟩) cap bs):
  Calls Tryz.prog 81 #[.pointer (some ⟨b0,0,none⟩),.pointer (some ⟨b1,0,none⟩),.pointer (some ⟨b2,0,none⟩)] w (CatQ (NdYes bs a b2 w) (NdBad bs a b2 w)):=by
 cases hX:q1y bs a with
 | some nd=>
  refine(CkNode1_yes b0 b1 b2 b off n cap bs a nd hn hl hcap hc63 ha hX w c0 c1 k2 h).mono ?_
  rintro e w' ⟨rfl,h1,h2⟩
  exact Or.inl ⟨rfl,nd,hX,h1,h2⟩
 | none=>
  by_cases hin:0<q0w (n:Int)∧0<q1q a∧q1q a≤q0w (n:Int)
  ·by_cases hc:leW ((bs.drop (1024*(q1q a).toNat)).take 8)=3∧idxB a 3=true
   ·have hca:q1u bs (q1q a).toNat=3:=by unfold q1u;rw[hc.1];rfl
    have h3:clsI bs a=3:=by
     unfold clsI
     rw[←hn,if_neg (by omega),hca,if_pos ⟨by omega,hc.2⟩]
     rfl
    have htg: ¬(tagN≤wdI bs a∧wdI bs a≤tagN+15):=fun hh=>by
     unfold q1y at hX
     rw[if_pos ⟨h3,hh⟩] at hX
     cases hX
    refine(CkNode1_tag b0 b1 b2 b off n cap bs a hn hl hcap hc63 ha h3 htg w c0 c1 k2 h).mono ?_
    rintro e w' ⟨rfl,h1,h2⟩
    exact Or.inr ⟨rfl,hX,h1,h2⟩
   ·refine(CkNode1_cls b0 b1 b2 b off n cap bs a hn hl hcap ha hin hc w c0 c1 h).mono ?_
    rintro e w' ⟨rfl,h1⟩
    exact Or.inr ⟨rfl,hX,k2.bel h1,Only.of_below h1 _⟩
  ·refine(CkNode1_out b0 b1 b2 b off n cap a hl ha hin w c0 c1).mono ?_
   rintro e w' ⟨rfl,rfl⟩
   exact Or.inr ⟨rfl,hX,k2,Only.refl _ _⟩
theorem CkNode_z (b off n cap:Nat) (bs:List Int) (a:Int) (hn:n=bs.length) (hl:n≤100000) (hcap:n≤cap) (hc63:cap≤9223372036854775807) (ha:0≤a∧a≤18446744073709551615) (w:World) (h:q1m w (some ⟨b,off,none⟩) cap bs):
  Calls Tryz.prog 22 #[.slice (some ⟨b,off,none⟩) n cap,.int .u64 a] w fun e w'=>e= .returned (q8r bs a)∧Below w.heap.size w w':=by
 have hmf: ∀(fn:Fn) (first cap:Array Value) (w:World),(Instr.makeFunc fn first cap).run Tryz.prog w= .ok (.func fn first cap) w:=fun _ _ _ _=>rfl
 obtain⟨W0,hW0⟩: ∃W0,W0=(w.alloc (.cells #[.slice (some ⟨b,off,none⟩) n cap] 36)).alloc (.cells #[.int .u64 a] 51):=⟨_,rfl⟩
 have hb0:Below w.heap.size w W0:=by rw[hW0];exact ba (ba (Below.refl _ _) _) _
 have hz0:W0.heap.size=w.heap.size+2:=by rw[hW0];simp
 have k0:Blk W0 w.heap.size 36 #[.slice (some ⟨b,off,none⟩) n cap]:=by rw[hW0];exact(Blk.new w _ _).alloc _
 have k1:Blk W0 (w.heap.size+1) 51 #[.int .u64 a]:=by
  rw[hW0]
  have:=Blk.new (w.alloc (.cells #[.slice (some ⟨b,off,none⟩) n cap] 36)) 51 #[.int .u64 a]
  simpa only[World.size_alloc] using this
 obtain⟨W2,hW2⟩: ∃W2,W2=W0.alloc (.cells (q0x q2w) 55):=⟨_,rfl⟩
 have hb2:Below W0.heap.size W0 W2:=by rw[hW2];exact ba (Below.refl _ _) _
 have hz2:W2.heap.size=w.heap.size+3:=by rw[hW2];simp[hz0]
 have k2:Blk W2 (w.heap.size+2) 55 (q0x q2w):=by rw[hW2,←hz0];exact Blk.new _ _ _
 obtain⟨W3,hW3⟩: ∃W3,W3=W2.alloc (.cells #[.int .i64 0] 33):=⟨_,rfl⟩
 have hb3:Below W2.heap.size W2 W3:=by rw[hW3];exact ba (Below.refl _ _) _
 have k3:Blk W3 W2.heap.size 33 #[.int .i64 0]:=by rw[hW3];exact Blk.new _ _ _
 have hb03:=bx hb2 hb3
 have hin:=CkNode1_z w.heap.size (w.heap.size+1) (w.heap.size+2) b off n cap bs a hn hl hcap hc63 ha W3 ((k0.bel hb03).cell 0) ((k1.bel hb03).cell 0) (k2.bel hb3) (q2d h (bx hb0 hb03))
 have CAT:=hid (v2p 81 #[.pointer (some ⟨w.heap.size,0,none⟩),.pointer (some ⟨w.heap.size+1,0,none⟩),.pointer (some ⟨w.heap.size+2,0,none⟩)] (fun W=>by kernel_rfl) W2 (NdYes bs a (w.heap.size+2) W3) (NdBad bs a (w.heap.size+2) W3) (by rw[←hW3];exact hin) (fun w' hw=>by
  have ho:Only [w.heap.size+2] W3 w':=by
   rcases hw with⟨_,_,_,h3⟩ | ⟨_,_,h3⟩
   ·exact h3
   ·exact h3
  have:=ho.blk k3 (by simp;omega)
  exact⟨this.cell 0,this.frozen 0⟩))
 have HW:=hid (⟨bx hb0 hb03,hz2⟩:_∧_)
 clear hn hl hcap hc63 ha h hb0 k0 k1 hb2 k2 hb3 k3 hb03 hin
 go_enter Tryz.func22,Tryz.ntmps22
 go_upto_region 1 with fail
 rw[show(((w.alloc (.cells #[.slice (some ⟨b,off,none⟩) n cap] 36)).alloc (.cells #[.int .u64 a] 51)).alloc (.cells #[.int .i64 0,.int .u64 0,.int .u64 0,.int .u64 0,.int .u64 0,.int .u64 0,.int .u64 0,.int .u64 0,.int .u64 0,.int .u64 0,.int .u64 0,.int .u64 0,.int .u64 0,.int .u64 0,.int .u64 0,.int .u64 0,.int .u64 0,.int .u64 0,.int .u64 0,.int .u64 0,.int .u64 0] 55))=W2 by rw[hW2,hW0];rfl]
 rw[show w.heap.size+1+1=w.heap.size+2 from rfl]
 clear hW2 hW3 hW0
 go_wp2_with fail
 refine CAT.out.mono ?_
 rintro e w5 ⟨w4,(⟨hok,rfl,rfl⟩ | ⟨hbad,rfl,rfl⟩)⟩
 ·obtain⟨nd,hN,hB,hO⟩:=hok
  obtain⟨W5,hW5⟩: ∃W5,W5=w4.setCell ⟨W2.heap.size,0,none⟩ (.int .i64 0):=⟨_,rfl⟩
  have o5:Only [W2.heap.size] w4 W5:=by rw[hW5];exact(Only.refl _ _).setCell (Or.inl (by simp)) _
  have hh:=HW.out
  have k5:=o5.blk hB (by simp;omega)
  have hld:=q2j k5
  have hlv:=q7m k5
  have hst:=z3q k5
  have hbl:Below w.heap.size w W5:=by
   have h1:=hh.1.trans (hO.below (B:=w.heap.size) (fun x hx=>by simp at hx;omega) hh.1.size)
   exact h1.trans (o5.below (B:=w.heap.size) (fun x hx=>by simp at hx;omega) h1.size)
  have HFIN:Hid (Ending.returned (.tuple #[.agg (q0x nd),.int .i64 0])= .returned (q8r bs a)∧Below w.heap.size w W5):=hid ⟨by unfold q8r;rw[hN],hbl⟩
  rw[←hW5]
  clear hW5 o5 hh k5 hbl hB hO hN
  go_wp2
  refine bodyPost_ret (v:= .tuple #[.agg (q0x nd),.int .i64 0]) (q0y rfl _ _ _ _ _ rfl rfl hlv) rfl ?_
  exact HFIN.out
 ·obtain⟨hN,hB,hO⟩:=hbad
  obtain⟨W5,hW5⟩: ∃W5,W5=w4.setCell ⟨W2.heap.size,0,none⟩ (.int .i64 6):=⟨_,rfl⟩
  have o5:Only [W2.heap.size] w4 W5:=by rw[hW5];exact(Only.refl _ _).setCell (Or.inl (by simp)) _
  have hh:=HW.out
  have k5:=o5.blk hB (by simp;omega)
  have hld:=q2j k5
  have hlv:=q7m k5
  have hst:=z3q k5
  have hbl:Below w.heap.size w W5:=by
   have h1:=hh.1.trans (hO.below (B:=w.heap.size) (fun x hx=>by simp at hx;omega) hh.1.size)
   exact h1.trans (o5.below (B:=w.heap.size) (fun x hx=>by simp at hx;omega) h1.size)
  have HFIN:Hid (Ending.returned (.tuple #[.agg (q0x q2w),.int .i64 6])= .returned (q8r bs a)∧Below w.heap.size w W5):=hid ⟨by unfold q8r;rw[hN],hbl⟩
  rw[←hW5]
  clear hW5 o5 hh k5 hbl hB hO hN
  go_wp2
  refine bodyPost_ret (v:= .tuple #[.agg (q0x q2w),.int .i64 6]) (q0y rfl _ _ _ _ _ rfl rfl hlv) rfl ?_
  exact HFIN.out
end Go.Proofs.YtibiekfjbibpbaaGreat
