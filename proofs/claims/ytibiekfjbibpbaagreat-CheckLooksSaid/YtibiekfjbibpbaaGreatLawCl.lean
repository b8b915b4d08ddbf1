/- The law CheckLooks, walked. -/
import Derived.Test.YtibiekfjbibpbaaGreatLawCb
import Derived.Test.YtibiekfjbibpbaaGreatArnN
set_option maxRecDepth 100000
set_option maxHeartbeats 4000000
set_option linter.unusedVariables false
set_option linter.unusedSimpArgs false
namespace Go.Proofs.YtibiekfjbibpbaaGreat
open Go.RowKit
theorem laLoadAt (v:Value):Instr.loadAt 24 v=ldM 24 v:=rfl
attribute [local go_sem ↓ high] repStoreAt2 repLoadAt repLoadVar drepBuild append_shut2 laLoadAt
attribute [local go_sem] ldM_run lvM_run stM_run bldM_run Oper.semAt_some appM2_run
theorem la_ld {w:World} {b:Nat} {x:La} {kv:Value} (h:Blk w b 24 (laC x kv)):ldR Tryz.prog 24 (.pointer (some ⟨b,0,none⟩)) w= .ok (.agg (laC x kv)) w:=h.ld Tryz.underlying24 rfl (by simp only[laC];kernel_rfl)
theorem arg_of_blk {w:World} {b n:Nat} {bs:List Int} (h:Blk w b 5 (byC bs)) (hb: ∀x∈bs,0≤x∧x<256) (hn:n=bs.length) (hl:n≤1000000):ByArg w (.slice (some ⟨b,0,none⟩) bs.length n) bs:=
 ⟨hb,Or.inr ⟨_,n,rfl,by omega,by unfold maxLen;omega,Or.inr ⟨b,0,rfl,h.lt,fun i x hi=>by rw[Nat.zero_add];exact(h.cell i).trans (byC_get hi)⟩⟩⟩
theorem CheckLooks_z (x:La) (kv lv0:Value) (xs:List Int) (l:List Sp) (hxs: ∀y∈xs,U64 y) (hsp: ∀s∈l,SpOK s) (hxl:xs.length≤9223372036854775807) (hll:l.length≤9223372036854775807) (hx:I64 x.slabs∧I64 x.per∧I64 x.lag) (w:World) (hK:NumsAt .u64 w kv xs) (hS:SpsAt w lv0 l):
  Calls Tryz.prog 3 #[.agg (laC x kv),lv0] w fun e w'=>e= .returned (.bool true)∧Below w.heap.size w w':=by
 obtain⟨W1,hW1⟩: ∃W1,W1=w.alloc (.cells (laC x kv) 24):=⟨_,rfl⟩
 have hb1:Below w.heap.size w W1:=by rw[hW1];exact ba (Below.refl _ _) _
 have k1:Blk W1 w.heap.size 24 (laC x kv):=by rw[hW1];exact Blk.new _ _ _
 have hld:=la_ld k1
 have AZ:=hid (Arena_z x kv lv0 xs l hxs hsp hxl hll hx W1 (hK.bel hb1) (hS.bel hb1))
 have HW1:=hid hW1
 have HB1:=hid hb1
 clear hW1 hb1 k1 hxs hsp hxl hll hx hK hS
 go_enter Tryz.func3,Tryz.ntmps3
 go_upto_region 1 with fail
 rw[show _=W1 from HW1.out.symm]
 go_wp2_with fail
 refine AZ.out.mono ?_
 rintro e W2 ⟨hb2,h2⟩
 have HB2:=hid (bx HB1.out hb2)
 clear hld hb2
 rcases h2 with rfl | ⟨g,b,n,R,lv,rows,R0,rfl,_,hg,hbb,hSp,_,_⟩
 ·go_wp2_with fail
  refine(known23_z _).mono ?_
  rintro e w3 ⟨rfl,hb3⟩
  have HB3:=hid (bx HB2.out hb3)
  clear hb3
  go_wp2
  go_ret
  exact⟨rfl,HB3.out⟩
 ·have c0:W2.cell? ⟨g,0,none⟩=some (.slice (some ⟨b,0,none⟩) n n):=hSp.ar.blk.cell 0
  obtain⟨bs,hbs⟩: ∃bs,bs=R.bs:=⟨_,rfl⟩
  have hn:n=bs.length:=by rw[hbs];exact hSp.ar.ln
  have hn6:n≤1000000:=hSp.ar.big
  have hbyt: ∀x∈bs,0≤x∧x<256:=by rw[hbs];exact hSp.ar.byt
  have hkb:Blk W2 b 5 (byC bs):=by rw[hbs];exact hSp.ar.by'
  have hgk:=hSp.ar.blk
  have hA:=arg_of_blk hkb hbyt hn hn6
  obtain⟨p',cap',W4,hrun,hby1,hnew,hb4⟩:=byCopy hA (by omega)
  obtain⟨hh,nn,err,ps,Rr,F,K,herr,hsm,hlen,hlk,hdl⟩:=looks_same hbyt
  obtain⟨q1,q2,e1,hbi1,hc1⟩:=hby1.form
  injection e1 with e1 _ e2
  subst e1 e2
  have LK:=hid (Look_z p' n cap' bs hn hn6 hc1 W4 hbi1)
  have LD:=hid (fun W (hb:Below W2.heap.size W2 W)=>DLook_r (some ⟨b,0,none⟩) n bs n hn hn6 W (bytesIn_blk (hkb.bel hb) hbyt (by omega)))
  have HG:=hid hgk
  have HS:=hid (⟨herr,hsm,hlen⟩:_∧_∧_)
  have HLK:=hid hlk
  have HDL:=hid hdl
  have HB4:=hid hb4
  rw[←hn] at hrun
  clear hSp hkb hgk hA hby1 hbi1 hc1 hnew herr hsm hlen hlk hdl hb4 hbyt hn6 hbs hg hbb hn
  go_wp2_with fail
  refine LK.out.mono ?_
  intro e w2 hp
  obtain⟨hb2,pa,pc,ra,rc,fa,fc,ka,kc,rfl,hrep⟩:=HLK.out _ _ _ hp
  clear hp
  obtain⟨pn,hpn⟩: ∃pn,pn=ps.length:=⟨_,rfl⟩
  obtain⟨rn,hrn⟩: ∃rn,rn=Rr.length:=⟨_,rfl⟩
  obtain⟨fn,hfn⟩: ∃fn,fn=F.length:=⟨_,rfl⟩
  obtain⟨kn,hkn⟩: ∃kn,kn=K.length:=⟨_,rfl⟩
  rw[←hpn,←hrn,←hfn,←hkn] at hrep ⊢
  obtain⟨W3,hst3,k3,hb3⟩:=rep_put w2 pa ra fa ka pn pc rn rc fn fc kn kc hh nn
  have HB3:=hid (bx HB4.out (bx hb2 hb3))
  have HR3:=hid (hrep.bel hb3)
  have HK3:=hid k3
  have HNM:=hid (⟨hpn,hrn,hfn,hkn⟩:_∧_∧_∧_)
  have LD3:=hid (LD.out _ HB3.out)
  have c03:W3.cell? ⟨g,0,none⟩=some (.slice (some ⟨b,0,none⟩) n n):=(HG.out.bel HB3.out).cell 0
  clear hb2 hb3 hrep k3 hpn hrn hfn hkn hrun c0
  go_wp2_with fail
  clear hst3
  refine LD3.out.mono ?_
  intro e w4 hp
  obtain⟨hb4,pa2,pc2,ra2,rc2,fa2,fc2,ka2,kc2,rfl,hrep⟩:=HDL.out _ _ _ hp
  clear hp
  rw[←HNM.out.1,←HNM.out.2.1,←HNM.out.2.2.1,←HNM.out.2.2.2] at hrep ⊢
  obtain⟨W5,hst5,k5,hb5⟩:=rep_put w4 pa2 ra2 fa2 ka2 pn pc2 rn rc2 fn fc2 kn kc2 hh nn
  have HB5:=hid (bx HB3.out (bx hb4 hb5))
  have hld1:=((HK3.out.bel hb4).bel hb5).ld (P:=Tryz.prog) (ty:=32) Tryz.underlying32 rfl (by kernel_rfl)
  have hld2:=k5.ld (P:=Tryz.prog) (ty:=32) Tryz.underlying32 rfl (by kernel_rfl)
  have SM:=DSame_yes hh nn pn pn pa pa2 pc pc2 (.slice ra rn rc) (.slice fa fn fc) (.slice ka kn kc) (.slice ra2 rn rc2) (.slice fa2 fn fc2) (.slice ka2 kn kc2) ps Rr F K W5 ((HR3.out.bel hb4).bel hb5) (hrep.bel hb5) HS.out.2.2 HS.out.2.1
  have SM:=hid SM
  have be:(err==err)=true:=by simp
  clear hb4 hb5 hrep k5 c03
  go_wp2_with fail
  refine SM.out.mono ?_
  rintro e w6 ⟨rfl,hb6⟩
  have HB6:=hid (bx HB5.out hb6)
  clear hb6 hst5 hld1 hld2
  go_wp2_with fail
  refine(known23_z _).mono ?_
  rintro e w7 ⟨rfl,hb7⟩
  have HB7:=hid (bx HB6.out hb7)
  clear hb7
  go_wp2
  go_ret
  exact⟨rfl,bx HB2.out HB7.out⟩
end Go.Proofs.YtibiekfjbibpbaaGreat
