/- Spoils; the arena of the laws of layer 23. -/
import Derived.Test.YtibiekfjbibpbaaGreatArnQ
import Derived.Test.YtibiekfjbibpbaaGreatSqA
set_option maxRecDepth 100000
set_option maxHeartbeats 4000000
set_option linter.unusedVariables false
set_option linter.unusedSimpArgs false
namespace Go.Proofs.YtibiekfjbibpbaaGreat
open Go.RowKit
section
attribute [local go_sem ↓ high] q0v
attribute [local go_sem] q0h
end
section
attribute [local go_sem ↓ high] x1r z7q
attribute [local go_sem] q1x q1v
theorem SpA.bel {W W':World} {N g b n:Nat} {R:AR} {lv:Value} {rows:List (List (Nat×NodeA))} (h:SpA W N g b n R lv rows) (hb:Below W.heap.size W W'):SpA W' N g b n R lv rows:=
 ⟨h.ar.bel hb,h.lvs.only (Only.of_below hb []) (fun k hk=>by cases hk),h.sl,h.rne,h.rl,h.rin⟩
structure Sp where
 kind:Int
 which:Int
 n:Int
 at':Int
 how:Int
 w:Int
def spC (s:Sp):Array Value:= #[.int .i64 s.kind,.int .i64 s.which,.int .i64 s.n,.int .i64 s.at',.int .i64 s.how,.int .u64 s.w]
structure SpOK (s:Sp):Prop where
 kind:I64 s.kind
 which:I64 s.which
 n:I64 s.n
 at':I64 s.at'
 how:I64 s.how
 w:U64 s.w
theorem at_ld_at {W:World} {N rb m c:Nat} {row:List (Nat×NodeA)} {i:Nat} {xx:Nat×NodeA} (h:rowA W N (.slice (some ⟨rb,0,none⟩) m c) row) (hxx:row[i]?=some xx):ldR Tryz.prog 57 (.pointer (some ⟨rb,i*22,none⟩)) W= .ok (.agg (atC xx.1 xx.2)) W:=by
 have hl:=(List.getElem?_eq_some_iff.1 hxx).1
 rcases h.2 with⟨h1,_⟩ | ⟨g',cap',cur,h1,h2,h3,h4,h5,h6,h7⟩
 ·cases h1
 ·injection h1 with h1 hm hc
  injection h1 with h1
  injection h1 with h1
  subst h1 hc hm
  have hB:Blk W rb 57 cur:=h3
  refine hB.ldAt (i*22) (fun j v hv=> ?_) Tryz.underlying57 rfl (by kernel_rfl)
  have hj:j<22:=(Array.getElem?_eq_some_iff.1 hv).1
  rw[←hB.cell,h.cellAt _ (by omega),q6i hxx j hj]
  exact hv
end
section
attribute [local go_sem ↓ high] x1b
attribute [local go_sem] q1x q1v
end
section
attribute [local go_sem ↓ high] x1b
attribute [local go_sem] q1x q1v
def SpsAt (w:World) (v:Value) (l:List Sp):Prop:=
 ∃ao cap,v= .slice ao l.length cap∧(l=[]∨ ∃b off,ao=some ⟨b,off,none⟩∧b<w.heap.size∧ ∀i s,l[i]?=some s→w.rangeAt b (off+i*6) (spC s).toList)
theorem SpsAt.bel {w w':World} {v:Value} {l:List Sp} (h:SpsAt w v l) (hb:Below w.heap.size w w'):SpsAt w' v l:=by
 obtain⟨ao,cap,h1,h2⟩:=h
 refine⟨ao,cap,h1,?_⟩
 rcases h2 with h2 | ⟨b,off,h3,h4,h5⟩
 ·exact Or.inl h2
 ·exact Or.inr ⟨b,off,h3,Nat.lt_of_lt_of_le h4 hb.size,fun i s hi j v hv=>(hb.cell (p:=⟨b,off+i*6+j,none⟩) h4).trans (h5 i s hi j v hv)⟩
structure La where
 slabs:Int
 per:Int
 lag:Int
def laC (x:La) (kv:Value):Array Value:= #[.int .i64 x.slabs,kv,.int .i64 x.per,.int .i64 x.lag]
def LaOK (x:La) (xs:List Int) (l:List Sp):Prop:=1≤x.slabs∧x.slabs≤16∧xs.length≤40∧2≤x.per∧x.per≤8∧0≤x.lag∧x.lag≤20∧l.length≤10
def q5b (xs:List Int):List Nat:=(q4s xs xs.length).map Int.toNat
def ArPs (w:World) (x:La) (xs:List Int) (l:List Sp) (e:Ending) (w':World):Prop:=
 Below w.heap.size w w'∧(e= .returned (.pointer none)∨ ∃g b n R lv rows R0,e= .returned (.pointer (some ⟨g,0,none⟩))∧LaOK x xs l∧w.heap.size≤g∧w.heap.size≤b∧SpA w' w.heap.size g b n R lv rows∧q8a x.slabs.toNat (q5b xs) x.per.toNat x.lag.toNat R0 rows∧(l=[]→R=R0))
theorem v1p {W:World} {N g b n:Nat} {R:AR} {lv:Value} {rows:List (List (Nat×NodeA))} {slabs per lag:Nat} {keys:List Nat} (h1:1≤slabs) (hs:slabs≤64) (hp:2≤per) (hk:keys.length≤1000) (hkk: ∀x∈keys,x<18446744073709551616) (hA:ArIs W g b n R lv) (hV:LvsA W N lv rows) (hB:q8a slabs keys per lag R rows):SpA W N g b n R lv rows:=by
 obtain⟨z1,K,z2,z3,z4,z5,z6⟩:=hB
 obtain⟨n1,n2⟩:=z2u h1 hs
 obtain⟨v1,v2,v3⟩:=z1u n1 hkk keys.length z1
 have hu:=z1g n1 (by rw[n2];omega) hkk keys.length z1
 have hbs:((AR.new slabs).vals keys keys.length).1.bs.length=1024*(slabs+1):=v2.trans n2
 have hK:K≤15:=by
  rcases Nat.lt_or_ge 15 K with h | h
  ·exact absurd (Or.inr (Or.inl rfl)) (z3 15 h)
  ·exact h
 have hinv:=z1m (per:=per) (lag:=lag) v1 (by rw[hbs];omega) hp (by rw[v3];exact hk) hu (K+1) (by omega) (fun j hj=>z2 j (by omega))
 obtain⟨q1,q2,q3,q4,q5,q6⟩:=hinv
 have hrl:rows.length=K+1:=by rw[z5,z5a]
 have hln:=hA.ln
 have hbsR:R.bs.length=1024*(slabs+1):=by
  rw[z6]
  show(putW _ 16 _).length=_
  rw[q3n _ (by rw[q2,hbs];omega),q2,hbs]
 have hsl:R.slabs=(((AR.new slabs).vals keys keys.length).1.lvls per lag ((AR.new slabs).vals keys keys.length).2 (K+1)).1.slabs:=by rw[z6];rfl
 have hlen:=q1.len
 refine⟨hA,hV,⟨by rw[hln,hbsR,hsl];rw[q2,hbs] at hlen;omega,by rw[hsl];rw[q2,hbs] at hlen;omega,by rw[hsl];exact q1.s64⟩,fun e=>(by rw[e] at hrl;simp at hrl),by omega,fun r hr=> ?_⟩
 rw[z5] at hr
 obtain⟨p1,p2,p3⟩:=q6 r hr
 exact⟨p1,p2,fun x hx=>by have:=(p3 x hx).1;rw[hbs] at this;rw[hln,hbsR];exact this⟩
theorem q7v (xs:List Int): ∀i,(q4s xs i).length≤i
 | 0=>Nat.le_refl _
 | i+1=>by have:=z4n (q4s xs i) (xs.getD i 0);have:=q7v xs i;show(insU _ _).length≤_;omega
theorem v7g {W1 W w9:World} {slabs per lag:Nat} {keys:List Nat} {e:Ending} (hb:Below W1.heap.size W1 W) (h:v0w W slabs keys per lag e w9): ∃v,e= .returned v∧Below W1.heap.size W1 w9∧(v= .pointer none∨ ∃g b n R lv rows,v= .pointer (some ⟨g,0,none⟩)∧W1.heap.size≤g∧W1.heap.size≤b∧ArIs w9 g b n R lv∧LvsA w9 W1.heap.size lv rows∧q8a slabs keys per lag R rows):=by
 obtain⟨h1,h2⟩:=h
 have hs:=hb.size
 rcases h2 with rfl | ⟨g,b,n,R,lv,rows,rfl,q1,q2,q3,q4,q5⟩
 ·exact⟨_,rfl,bx hb h1,Or.inl rfl⟩
 ·refine⟨_,rfl,bx hb h1,Or.inr ⟨g,b,n,R,lv,rows,rfl,by omega,by omega,q3,?_,q5⟩⟩
  obtain⟨vs,v1,v2,v3⟩:=q4
  exact⟨vs,v1,z5y v2 hs,fun i row hi=>by obtain⟨v,z1,z2,z3⟩:=v3 i row hi;exact⟨v,z1,z2,z5y z3 hs⟩⟩
theorem Arena_z (x:La) (kv lv0:Value) (xs:List Int) (l:List Sp) (hxs: ∀y∈xs,U64 y) (hsp: ∀s∈l,SpOK s) (hxl:xs.length≤9223372036854775807) (hll:l.length≤9223372036854775807) (hx:I64 x.slabs∧I64 x.per∧I64 x.lag) (w:World) (hK:q1w .u64 w kv xs) (hS:SpsAt w lv0 l) (hl0:l=[]):
  Calls Tryz.prog 13 #[.agg (laC x kv),lv0] w fun e w'=>ArPs w x xs l e w':=by
 obtain⟨ka,kc,rfl,hkc⟩:=hK
 obtain⟨sa,sc,rfl,hsc⟩:=hS
 obtain⟨m,hm⟩: ∃m,m=xs.length:=⟨_,rfl⟩
 obtain⟨k,hk⟩: ∃k,k=l.length:=⟨_,rfl⟩
 have HKA:Hid (q1w .u64 w (.slice ka m kc) xs):=hid ⟨ka,kc,by rw[hm],hkc⟩
 have HSA:Hid (SpsAt w (.slice sa k sc) l):=hid ⟨sa,sc,by rw[hk],hsc⟩
 rw[←hm,←hk]
 obtain⟨W1,hW1⟩: ∃W1,W1=w.alloc (.cells (laC x (.slice ka m kc)) 24):=⟨_,rfl⟩
 have hb1:Below w.heap.size w W1:=by rw[hW1];exact ba (Below.refl _ _) _
 have k1:Blk W1 w.heap.size 24 (laC x (.slice ka m kc)):=by rw[hW1];exact Blk.new _ _ _
 obtain⟨B,hB⟩: ∃B,B=w.heap.size:=⟨_,rfl⟩
 rw[←hB] at k1
 have c0:W1.cell? ⟨B,0,none⟩=some (.int .i64 x.slabs):=k1.cell 0
 have c1:W1.cell? ⟨B,1,none⟩=some (.slice ka m kc):=k1.cell 1
 have c2:W1.cell? ⟨B,2,none⟩=some (.int .i64 x.per):=k1.cell 2
 have c3:W1.cell? ⟨B,3,none⟩=some (.int .i64 x.lag):=k1.cell 3
 have HL0:=hid hl0
 clear hl0
 have HW1:=hid hW1
 have HB1:=hid hb1
 have HH:=hid (⟨hm,hk,hxs,hsp⟩:m=xs.length∧k=l.length∧(∀y∈xs,U64 y)∧(∀s∈l,SpOK s))
 clear hW1 hb1 k1 hxs hsp hkc hsc hm hk hxl hll hx
 go_enter Tryz.func13,Tryz.ntmps13
 go_upto_region 1 with fail
 rw[show _=W1 from HW1.out.symm,←hB]
 have HBB:=hid hB
 clear hB
 by_cases q1:x.slabs<1
 ·have HNIL:Hid (ArPs w x xs l (.returned (.pointer none)) W1):=hid ⟨HB1.out,Or.inl rfl⟩
  go_wp2
  go_ret
  exact HNIL.out
 by_cases q2:x.slabs>16
 ·have HNIL:Hid (ArPs w x xs l (.returned (.pointer none)) W1):=hid ⟨HB1.out,Or.inl rfl⟩
  go_wp2
  go_ret
  exact HNIL.out
 by_cases q3:40<m
 ·have p3:(m:Int)>40:=by omega
  have HNIL:Hid (ArPs w x xs l (.returned (.pointer none)) W1):=hid ⟨HB1.out,Or.inl rfl⟩
  go_wp2
  go_ret
  exact HNIL.out
 have n3: ¬(m:Int)>40:=by omega
 by_cases q4:x.per<2
 ·have HNIL:Hid (ArPs w x xs l (.returned (.pointer none)) W1):=hid ⟨HB1.out,Or.inl rfl⟩
  go_wp2
  go_ret
  exact HNIL.out
 by_cases q5:x.per>8
 ·have HNIL:Hid (ArPs w x xs l (.returned (.pointer none)) W1):=hid ⟨HB1.out,Or.inl rfl⟩
  go_wp2
  go_ret
  exact HNIL.out
 by_cases q6:x.lag<0
 ·have HNIL:Hid (ArPs w x xs l (.returned (.pointer none)) W1):=hid ⟨HB1.out,Or.inl rfl⟩
  go_wp2
  go_ret
  exact HNIL.out
 by_cases q7:x.lag>20
 ·have HNIL:Hid (ArPs w x xs l (.returned (.pointer none)) W1):=hid ⟨HB1.out,Or.inl rfl⟩
  go_wp2
  go_ret
  exact HNIL.out
 by_cases q8:10<k
 ·have p8:(k:Int)>10:=by omega
  have HNIL:Hid (ArPs w x xs l (.returned (.pointer none)) W1):=hid ⟨HB1.out,Or.inl rfl⟩
  go_wp2
  go_ret
  exact HNIL.out
 have n8: ¬(k:Int)>10:=by omega
 have HOK:Hid (LaOK x xs l):=hid (by have h1:=HH.out.1;have h2:=HH.out.2.1;unfold LaOK;omega)
 clear q3 q8
 go_upto_region 3 with fail
 obtain⟨sl,hsl⟩: ∃sl:Nat,x.slabs=(sl:Int):=⟨x.slabs.toNat,by omega⟩
 obtain⟨pe,hpe⟩: ∃pe:Nat,x.per=(pe:Int):=⟨x.per.toNat,by omega⟩
 obtain⟨lg,hlg⟩: ∃lg:Nat,x.lag=(lg:Int):=⟨x.lag.toNat,by omega⟩
 rw[hsl] at c0
 rw[hpe] at c2
 rw[hlg] at c3
 have HSL:=hid (⟨by rw[hsl];exact Int.toNat_natCast _,by rw[hpe];exact Int.toNat_natCast _,by rw[hlg];exact Int.toNat_natCast _,(by have:=HOK.out;unfold LaOK at this;omega:1≤sl∧sl≤16∧2≤pe∧pe≤8∧lg≤20)⟩:x.slabs.toNat=sl∧x.per.toNat=pe∧x.lag.toNat=lg∧1≤sl∧sl≤16∧2≤pe∧pe≤8∧lg≤20)
 have hm40:m≤40:=by omega
 have RZ:=hid (fun W (hb:Below W1.heap.size W1 W)=>v3q xs 40 (.slice ka m kc) (by have:=HH.out.1;omega) (by omega) W (HKA.out.bel (bx HB1.out hb)))
 have BZ:=hid (fun(W:World) (v:Value) (hb:Below W1.heap.size W1 W) (hv:q1w .u64 W v (q4s xs xs.length))=>v0e sl pe lg (q5b xs) v HSL.out.2.2.2.1 (by have:=HSL.out;omega) (by unfold q5b;rw[List.length_map];have:=q7v xs xs.length;have:=HH.out.1;omega) (by
  intro y hy
  unfold q5b at hy
  obtain⟨z,hz,rfl⟩:=List.mem_map.1 hy
  have:=HH.out.2.2.1 z (q9v (Nat.le_refl _) z hz)
  unfold U64 at this
  omega) HSL.out.2.2.2.2.2.1 HSL.out.2.2.2.2.2.2.1 (by have:=HSL.out;omega) W (by
  have e:(q5b xs).map (fun x:Nat=>(x:Int))=q4s xs xs.length:=by
   unfold q5b
   rw[List.map_map]
   conv=>rhs;rw[←List.map_id (q4s xs xs.length)]
   apply List.map_congr_left
   intro z hz
   have:=(HH.out.2.2.1 z (q9v (Nat.le_refl _) z hz)).1
   show((z.toNat:Nat):Int)=z
   omega
  rw[e];exact hv))
 clear q1 q2 n3 q4 q5 q6 q7 n8 hsl hpe hlg
 go_cut [5] from 5 to 55 (fun v wd=>Hid (Below W1.heap.size W1 wd∧(v= .pointer none∨ ∃g b n R lv rows,v= .pointer (some ⟨g,0,none⟩)∧W1.heap.size≤g∧W1.heap.size≤b∧ArIs wd g b n R lv∧LvsA wd W1.heap.size lv rows∧q8a sl (q5b xs) pe lg R rows)))
 case first=>
  go_region_held3 (fun X=>X.cell? ⟨B,0,none⟩=some (.int .i64 (sl:Int))∧X.cell? ⟨B,1,none⟩=some (.slice ka m kc)∧X.cell? ⟨B,2,none⟩=some (.int .i64 (pe:Int))∧X.cell? ⟨B,3,none⟩=some (.int .i64 (lg:Int))) (go_keep) (first
   | (go_at_call 18;refine(RZ.out _ (by(repeat(first | exact Below.refl _ _ | (refine ba ?_ _) | (refine Below.drew ?_) | (refine below_drewN ?_ _) | (refine Below.alloc ?_ (by first | omega | (simp;done) | (simp;omega)) _) | (refine Below.setCell ?_ (by first | omega | (simp;done) | (simp;omega)) _) | (refine bx ?_ (by assumption)) | (refine Below.trans ?_ (Below.mono (by assumption) (by first | omega | (simp;done) | (simp;omega)))))))).mono ?_;rintro e v1 ⟨hb,v,j,rfl,hj1,hj2,hj3,hrow⟩;(have hj:j=xs.length:=by have h8:=q7v xs j;have h9:=HH.out.1;omega);subst hj;have hB1:Below W1.heap.size W1 v1:=bx (by(repeat(first | exact Below.refl _ _ | (refine ba ?_ _) | (refine Below.drew ?_) | (refine below_drewN ?_ _) | (refine Below.alloc ?_ (by first | omega | (simp;done) | (simp;omega)) _) | (refine Below.setCell ?_ (by first | omega | (simp;done) | (simp;omega)) _) | (refine bx ?_ (by assumption)) | (refine Below.trans ?_ (Below.mono (by assumption) (by first | omega | (simp;done) | (simp;omega))))))) hb;have HBV:=hid hB1;have d1:v1.cell? ⟨B,1,none⟩=some (.slice ka m kc):=(hB1.cell (p:=⟨B,1,none⟩) (World.block_lt_of_cell? W1 _ c1)).trans c1;obtain⟨va,vc,rfl⟩:=q0q hrow;have HNA:=hid (q1w.of_own hrow);have d0:v1.cell? ⟨B,0,none⟩=some (.int .i64 (sl:Int)):=(hB1.cell (p:=⟨B,0,none⟩) (World.block_lt_of_cell? W1 _ c0)).trans c0;have d2:v1.cell? ⟨B,2,none⟩=some (.int .i64 (pe:Int)):=(hB1.cell (p:=⟨B,2,none⟩) (World.block_lt_of_cell? W1 _ c2)).trans c2;have d3:v1.cell? ⟨B,3,none⟩=some (.int .i64 (lg:Int)):=(hB1.cell (p:=⟨B,3,none⟩) (World.block_lt_of_cell? W1 _ c3)).trans c3;clear hb hrow hB1 hj1 hj2 hj3)
   | (go_at_call 35;refine(BZ.out _ _ (by first | exact HBV.out | exact HBV.out.drew) (by first | exact HNA.out | exact HNA.out.bel ⟨rfl,rfl,rfl,Nat.le_refl _,fun _ _=>rfl⟩)).mono ?_;intro e w9 h9;obtain⟨v9,rfl,hp9⟩:=v7g (by first | exact HBV.out | exact HBV.out.drew) h9;have f0:w9.cell? ⟨B,0,none⟩=some (.int .i64 (sl:Int)):=(hp9.1.cell (p:=⟨B,0,none⟩) (World.block_lt_of_cell? W1 _ c0)).trans c0;have f1:w9.cell? ⟨B,1,none⟩=some (.slice ka m kc):=(hp9.1.cell (p:=⟨B,1,none⟩) (World.block_lt_of_cell? W1 _ c1)).trans c1;have f2:w9.cell? ⟨B,2,none⟩=some (.int .i64 (pe:Int)):=(hp9.1.cell (p:=⟨B,2,none⟩) (World.block_lt_of_cell? W1 _ c2)).trans c2;have f3:w9.cell? ⟨B,3,none⟩=some (.int .i64 (lg:Int)):=(hp9.1.cell (p:=⟨B,3,none⟩) (World.block_lt_of_cell? W1 _ c3)).trans c3;have HP9:=hid hp9;clear h9 hp9))
  go_wp2
  go_meet
  exact HP9
 case rest=>
  obtain⟨hb9,hv9⟩:=hcut.out
  have HBW:Hid (Below w.heap.size w wc):=hid (bx HB1.out hb9)
  rcases hv9 with rfl | ⟨g,b,n,R,lv,rows,rfl,hg,hbb,hA,hV,hBO⟩
  ·have HF:Hid (ArPs w x xs l (.returned (.pointer none)) wc):=hid ⟨HBW.out,Or.inl rfl⟩
   clear hcut hb9
   go_wp2
   go_ret
   exact HF.out
  ·have hS:=v1p HSL.out.2.2.2.1 (by have:=HSL.out;omega) HSL.out.2.2.2.2.2.1 (by unfold q5b;rw[List.length_map];have:=q7v xs xs.length;have:=HH.out.1;omega) (by
    intro y hy
    unfold q5b at hy
    obtain⟨z,hz,rfl⟩:=List.mem_map.1 hy
    have:=HH.out.2.2.1 z (q9v (Nat.le_refl _) z hz)
    unfold U64 at this
    omega) hA hV hBO
   have hws:w.heap.size≤W1.heap.size:=HB1.out.size
   have hw9:W1.heap.size≤wc.heap.size:=hb9.size
   have HS0:Hid (SpA wc w.heap.size g b n R lv rows):=by
    refine hid ⟨hS.ar,?_,hS.sl,hS.rne,hS.rl,hS.rin⟩
    obtain⟨vs,v1,v2,v3⟩:=hS.lvs
    exact⟨vs,v1,z5y v2 hws,fun i row hi=>by obtain⟨v,z1,z2,z3⟩:=v3 i row hi;exact⟨v,z1,z2,z5y z3 hws⟩⟩
   have HGB:=hid (⟨by omega,by omega,hBO,hws⟩:w.heap.size≤g∧w.heap.size≤b∧q8a sl (q5b xs) pe lg R rows∧w.heap.size≤W1.heap.size)
   have HI0:Hid (Below w.heap.size w wc∧ ∃R',SpA wc w.heap.size g b n R' lv rows∧(0=0→R'=R)):=hid ⟨HBW.out,R,HS0.out,fun _=>rfl⟩
   have hk10:k≤10:=by have h1:=HOK.out;have h2:=HH.out.2.1;unfold LaOK at h1;omega
   clear hcut hb9 hg hbb hA hV hBO hS hws hw9 HS0 c0 c1 c2 c3
   go_wp2
   go_loopw [6] (fun iv wr=> ∃i:Nat,i≤k∧iv= .int .i64 (i:Int)∧Hid (Below w.heap.size w wr∧ ∃R',SpA wr w.heap.size g b n R' lv rows∧(i=0→R'=R))) (fun iv _=>k- (intOf iv).toNat)
   case atStart=>exact⟨0,Nat.zero_le _,rfl,hid ⟨HI0.out.1,(by obtain⟨R',q1,q2⟩:=HI0.out.2;exact⟨R',q1,fun _=>q2 trivial⟩)⟩⟩
   case round=>
    obtain⟨i,hik,rfl,hI⟩:=hrel
    obtain⟨wA,rfl⟩: ∃y,y=wr:=⟨_,rfl⟩
    clear HI0
    by_cases hlt:i<k
    ·exfalso
     have h1:=HH.out.2.1
     rw[HL0.out] at h1
     simp at h1
     omega
    ·obtain rfl:i=k:=by omega
     have i1: ¬(i:Int)< (i:Int):=by omega
     obtain⟨hbA,R',hSA,hR'⟩:=hI.out
     have HF:Hid (ArPs w x xs l (.returned (.pointer (some ⟨g,0,none⟩))) wA):=by
      refine hid ⟨hbA,Or.inr ⟨g,b,n,R',lv,rows,R,rfl,HOK.out,HGB.out.1,HGB.out.2.1,hSA,?_,fun hl=>hR' ?_⟩⟩
      ·rw[HSL.out.1,HSL.out.2.1,HSL.out.2.2.1];exact HGB.out.2.2.1
      ·rw[HH.out.2.1,hl];rfl
     clear hlt hik hbA hSA hI hR'
     go_wp2
     go_ret
     exact HF.out
end
end Go.Proofs.YtibiekfjbibpbaaGreat
