import Derived.Test.YtjmaicckkkdjpaaGreatF06
import Derived.Deep.CutRange
/- Arenas that are laid by hand: a word put, a word read. -/
set_option maxRecDepth 100000
set_option maxHeartbeats 2000000
set_option linter.unusedVariables false
set_option linter.unusedSimpArgs false
namespace Go.Proofs.YtjmaicckkkdjpaaGreat
open Go.RowKit
structure AR where
 bs:List Int
 slabs:Nat
 used:Nat
 value:Nat
 values:Nat
 node:Nat
 nodes:Nat
def arC (b n:Nat) (R:AR) (lv:Value):Array Value:= #[.slice (some ⟨b,0,none⟩) n n,.int .i64 (R.slabs:Int),.int .i64 (R.used:Int),.int .i64 (R.value:Int),.int .i64 (R.values:Int),.int .i64 (R.node:Int),.int .i64 (R.nodes:Int),lv]
structure ArIs (W:World) (g b n:Nat) (R:AR) (lv:Value):Prop where
 blk:Blk W g 51 (arC b n R lv)
 by':Blk W b 5 (byC R.bs)
 ln:n=R.bs.length
 big:n≤1000000
 byt: ∀x∈R.bs,0≤x∧x<256
theorem ArIs.bel {W W':World} {g b n:Nat} {R:AR} {lv:Value} (h:ArIs W g b n R lv) (hb:Below W.heap.size W W'):ArIs W' g b n R lv:=⟨h.blk.bel hb,h.by'.bel hb,h.ln,h.big,h.byt⟩
theorem ArIs.ne {W:World} {g b n:Nat} {R:AR} {lv:Value} (h:ArIs W g b n R lv):g≠b:=by
 intro e
 have h1:W.heap[g]?=some (.cells _ 51 (0,0)):=h.blk
 have h2:W.heap[b]?=some (.cells _ 5 (0,0)):=h.by'
 rw[e,h2] at h1
 injection h1 with h1
 injection h1 with _ h1 _
 cases h1
def AR.put (R:AR) (a x:Nat):AR:={ R with bs:=putW R.bs a x }
theorem ArIs.put {W W':World} {g b n:Nat} {R:AR} {lv:Value} (h:ArIs W g b n R lv) {a x:Nat} (ha:a+8≤n) (hk:Blk W' b 5 (byC (putW R.bs a x))) (ho:Only [b] W W'):ArIs W' g b n (R.put a x) lv:=
 ⟨ho.blk h.blk (by have:=h.ne;simpa using this),hk,by have:=h.ln;show n=(putW R.bs a x).length;rw[putW_len x (by omega)];exact this,h.big,putW_byte h.byt a x⟩
structure PtI (w:World) (b:Nat) (bs:List Int) (a x i:Nat) (W:World):Prop where
 by':Blk W b 5 (byC (putTo bs a x i))
 only:Only [b] w W
theorem APut_z (g b n:Nat) (R:AR) (lv:Value) (a x:Nat) (hx:x<18446744073709551616) (ha:a+8≤n) (w:World) (h:ArIs w g b n R lv):
  Calls Tryz.prog 68 #[.pointer (some ⟨g,0,none⟩),.int .i64 (a:Int),.int .u64 (x:Int)] w fun e w'=>e= .returned (.tuple #[])∧ArIs w' g b n (R.put a x) lv∧Only [b] w w':=by
 have HI0:Hid (PtI w b R.bs a x 0 w):=hid ⟨by rw[putTo_zero];exact h.by',Only.refl _ _⟩
 have H:=hid h
 have HA:=hid (⟨by rw[←h.ln];exact ha,h.big,h.ln⟩:a+8≤R.bs.length∧n≤1000000∧n=R.bs.length)
 have HX:=hid hx
 clear h ha hx
 go_enter Tryz.func68,Tryz.ntmps68
 go_wp2
 go_loopw [2,6] (fun xv iv wr=> ∃i:Nat,i≤8∧iv= .int .i64 (i:Int)∧xv= .int .u64 ((x/256^i:Nat):Int)∧Hid (PtI w b R.bs a x i wr)) (fun _ iv _=>8- (intOf iv).toNat)
 case atStart=>exact⟨0,Nat.zero_le _,rfl,by simp,HI0⟩
 case round=>
  obtain⟨i,hi,rfl,rfl,hI⟩:=hrel
  obtain⟨wA,rfl⟩: ∃y,y=wr:=⟨_,rfl⟩
  by_cases hi8:i<8
  ·have i0:(0:Int)≤(i:Int):=by omega
   have i1:(i:Int)<8:=by omega
   have hle:x/256^i≤x:=Nat.div_le_self _ _
   have e2:Hid (x/256^ (i+1)=x/256^i/256):=by show _=_;rw[Nat.pow_succ,Nat.div_div_eq_div_mul]
   have eb:Hid (byteN x i=((x/256^i:Nat):Int)% 256):=by show _=_;unfold byteN;omega
   obtain⟨V,hV⟩: ∃V,V=x/256^i:=⟨_,rfl⟩
   rw[←hV] at e2 eb hle ⊢
   have v0:(0:Int)≤(V:Int):=by omega
   have v1:(V:Int)<18446744073709551616:=by have:=HX.out;omega
   have u8:IntKind.u8.wrap (V:Int)=(V:Int)% 256:=by rw[IntKind.wrap_u8]
   obtain⟨q,hq⟩: ∃q,q=a+i:=⟨_,rfl⟩
   have c0:wA.cell? ⟨g,0,none⟩=some (.slice (some ⟨b,0,none⟩) n n):=(hI.out.only.blk H.out.blk (by have:=H.out.ne;simpa using this)).cell 0
   obtain⟨y,hy⟩:=putTo_at (bs:=R.bs) (a:=a) (x:=x) (i:=i) (by have:=HA.out;omega)
   have cb:wA.cell? ⟨b,q,none⟩=some (.int .u8 y):=by rw[hq];exact(hI.out.by'.cell (a+i)).trans (byC_get hy)
   have fb:=hI.out.by'.frozen q
   have wa:IntKind.i64.wrap ((a:Int)+(i:Int))=(q:Int):=by
    rw[IntWalk.i64_in _ (by have:=HA.out;constructor<;>omega)];omega
   have q0:(0:Int)≤(q:Int):=by omega
   have q1:(q:Int)< (n:Int):=by have:=HA.out;omega
   have hN:Hid (PtI w b R.bs a x (i+1) (wA.setCell ⟨b,q,none⟩ (.int .u8 ((V:Int)% 256)))):=by
    have o:Only [b] wA (wA.setCell ⟨b,q,none⟩ (.int .u8 ((V:Int)% 256))):=(Only.refl _ _).setCell (Or.inl (by simp)) _
    have hb:=hI.out.by'.set_ q (.int .u8 ((V:Int)% 256))
    rw[byC_set,hq,←eb.out,putTo_next (by have:=HA.out;omega)] at hb
    refine hid ⟨?_,hI.out.only.trans o (fun _ h=>Or.inl h)⟩
    rw[hq,←eb.out]
    exact hb
   have HI8:=hid hi8
   clear hy hq hi8 hi hI hV hle
   go_wp2
   go_roundw
   case rel=>exact⟨i+1,HI8.out,by go_num,by rw[e2.out];try(congr 1),hN⟩
   case measure=>simp[intOf];have:=HI8.out;omega
  ·obtain rfl:i=8:=by omega
   have i1: ¬((8:Nat):Int)<8:=by omega
   clear hi hi8
   go_wp2
   refine bodyPost_end (v:= .tuple #[]) (by simp[results,Tryz.results68,go_sem]) rfl ?_
   exact⟨rfl,H.out.put (by have:=HA.out;omega) (by have:=hI.out.by';rw[putTo_8] at this;exact this) hI.out.only,hI.out.only⟩
theorem wdN_bounds {bs:List Int} (hb: ∀x∈bs,0≤x∧x<256) (a:Nat):0≤wdN bs a∧wdN bs a<18446744073709551616:=by
 have h2:=leW_bounds (bs:=(bs.drop a).take 8) (fun x hx=>hb x (List.mem_of_mem_drop (List.mem_of_mem_take hx)))
 have h3:(2:Int)^ (8*((bs.drop a).take 8).length)≤2^64:=by
  have hp:=Nat.pow_le_pow_right (n:=2) (by decide) (show 8*((bs.drop a).take 8).length≤64 by rw[List.length_take];omega)
  exact_mod_cast hp
 unfold wdN
 omega
theorem AWord_z (g b n:Nat) (R:AR) (lv:Value) (a:Nat) (ha:a+8≤n) (w:World) (h:ArIs w g b n R lv):
  Calls Tryz.prog 151 #[.pointer (some ⟨g,0,none⟩),.int .i64 (a:Int)] w fun e w'=>e= .returned (.int .u64 (wdN R.bs a))∧w=w':=by
 obtain⟨cs,hcs⟩: ∃cs,cs=(R.bs.drop a).take 8:=⟨_,rfl⟩
 have hln:=h.ln
 have hcl:cs.length=8:=by rw[hcs];simp;omega
 have hby: ∀j c,cs[j]?=some c→w.cell? ⟨b,a+j,none⟩=some (.int .u8 c)∧0≤c∧c<256:=by
  intro j c hj
  have hj8:j<8:=by have:=(List.getElem?_eq_some_iff.1 hj).1;omega
  rw[hcs,List.getElem?_take,if_pos hj8,List.getElem?_drop] at hj
  exact⟨(h.by'.cell (a+j)).trans (byC_get hj),h.byt c (List.mem_of_getElem? hj)⟩
 have c0:w.cell? ⟨g,0,none⟩=some (.slice (some ⟨b,0,none⟩) n n):=h.blk.cell 0
 have hbig:=h.big
 have HW:=hid (show wdN R.bs a=leW cs by unfold wdN;rw[hcs])
 have HBY:=hid hby
 have HCL:=hid hcl
 clear h hby hcl hcs hln
 go_enter Tryz.func151,Tryz.ntmps151
 go_wp2
 go_loop [5,6] (fun v i=> ∃k:Nat,k≤8∧i= .int .i64 ((k:Int)-1)∧v= .int .u64 (leW (cs.drop k))) (fun _ i=>((intOf i)+1).toNat)
 case atStart=>
  refine⟨8,by omega,rfl,?_⟩
  rw[List.drop_of_length_le (by have:=HCL.out;omega)];rfl
 case round=>
  obtain⟨k,hk,rfl,rfl⟩:=hrel
  by_cases hlt:0<k
  ·obtain⟨j,rfl⟩: ∃j,k=j+1:=⟨k-1,by omega⟩
   have ej:(((j+1:Nat)):Int)-1=(j:Int):=by omega
   rw[ej]
   obtain⟨c,hc⟩: ∃c,cs[j]?=some c:=⟨_,List.getElem?_eq_getElem (by have:=HCL.out;omega)⟩
   obtain⟨y0,y1,y2⟩:=HBY.out j c hc
   have hw:Hid (leW (cs.drop j)=c+256*leW (cs.drop (j+1))):=by
    show _=_
    obtain⟨hjl,hcj⟩:=List.getElem?_eq_some_iff.1 hc
    rw[List.drop_eq_getElem_cons hjl,hcj];rfl
   have hb:=leW_bounds (bs:=cs.drop (j+1)) (fun z hz=>by
    obtain⟨m,hm⟩:=List.getElem?_of_mem (List.mem_of_mem_drop hz)
    exact(HBY.out m z hm).2)
   have hp:(2:Int)^ (8*(cs.drop (j+1)).length)≤2^56:=by
    have h4:=Nat.pow_le_pow_right (n:=2) (by omega) (show 8*(cs.drop (j+1)).length≤56 by simp;have:=HCL.out;omega)
    exact_mod_cast h4
   have h56:((2:Int)^56)=72057594037927936:=by decide
   obtain⟨V,hV⟩: ∃V,V=leW (cs.drop (j+1)):=⟨_,rfl⟩
   rw[←hV] at hw hb ⊢
   have v0:0≤V:=hb.1
   have v1:V*256+c<18446744073709551616:=by omega
   have v2:V*256<18446744073709551616:=by omega
   have i0:(0:Int)≤(j:Int):=by omega
   obtain⟨q,hq⟩: ∃q,q=a+j:=⟨_,rfl⟩
   rw[←hq] at y0
   have wq:IntKind.i64.wrap ((a:Int)+(j:Int))=(q:Int):=by rw[IntWalk.i64_in _ (by constructor<;>omega)];omega
   have i1:(0:Int)≤(q:Int):=by omega
   have i2:(q:Int)< (n:Int):=by omega
   have i4:IntKind.u64.wrap (V*256)=V*256:=IntWalk.u64_in _ (by omega)
   have i5:IntKind.u64.wrap (V*256+c)=V*256+c:=IntWalk.u64_in _ (by omega)
   have i6:IntKind.u64.wrap c=c:=IntWalk.u64_in _ (by omega)
   clear hc hb hp h56 hV hq
   go_wp2
   go_round
   case rel=>exact⟨j,by omega,by first | rfl | go_num,by rw[hw.out];try(congr 1;omega)⟩
   case measure=>simp[intOf]
  ·obtain rfl:k=0:=by omega
   have i1: ¬((((0:Nat)):Int)-1≥0):=by omega
   rw[List.drop_zero]
   go_wp2
   go_ret
   exact⟨by rw[HW.out];rfl,rfl⟩
structure AROk (R:AR):Prop where
 len:R.bs.length=1024*(R.slabs+1)
 s64:R.slabs≤64
 us:R.used≤R.slabs
 val:R.value≤R.used
 nod:R.node≤R.used
 vs:R.values≤15
 ns:R.nodes≤5
 byt: ∀x∈R.bs,0≤x∧x<256
 fresh: ∀s,R.used<s→s≤R.slabs→wdN R.bs (1024*s+8)=0
 hv:R.value≠0→wdN R.bs (1024*R.value+8)=2^R.values-1
 hn:R.node≠0→wdN R.bs (1024*R.node+8)=2^R.nodes-1
 two:R.value≠0→R.node≠0→R.value≠R.node
def AR.slab (R:AR) (c:Nat):AR×Nat:=if R.used=R.slabs then(R,0) else({ R with used:=R.used+1,bs:=putW R.bs (1024*(R.used+1)) c },R.used+1)
def AR.taken (R:AR) (s j:Nat):AR:=R.put (1024*s+8) ((wdN R.bs (1024*s+8)).toNat+2^j)
theorem arC_set2 (b n:Nat) (R:AR) (lv:Value) (x:Nat):(arC b n R lv).setIfInBounds 2 (.int .i64 (x:Int))=arC b n { R with used:=x } lv:=rfl
theorem arC_set3 (b n:Nat) (R:AR) (lv:Value) (x:Nat):(arC b n R lv).setIfInBounds 3 (.int .i64 (x:Int))=arC b n { R with value:=x } lv:=rfl
theorem arC_set4 (b n:Nat) (R:AR) (lv:Value) (x:Nat):(arC b n R lv).setIfInBounds 4 (.int .i64 (x:Int))=arC b n { R with values:=x } lv:=rfl
theorem arC_set5 (b n:Nat) (R:AR) (lv:Value) (x:Nat):(arC b n R lv).setIfInBounds 5 (.int .i64 (x:Int))=arC b n { R with node:=x } lv:=rfl
theorem arC_set6 (b n:Nat) (R:AR) (lv:Value) (x:Nat):(arC b n R lv).setIfInBounds 6 (.int .i64 (x:Int))=arC b n { R with nodes:=x } lv:=rfl
theorem ArIs.set {W:World} {g b n:Nat} {R R':AR} {lv:Value} (h:ArIs W g b n R lv) (i:Nat) (v:Value) (he:(arC b n R lv).setIfInBounds i v=arC b n R' lv) (hb:R'.bs=R.bs):ArIs (W.setCell ⟨g,i,none⟩ v) g b n R' lv∧Only [g] W (W.setCell ⟨g,i,none⟩ v):=by
 have o:Only [g] W (W.setCell ⟨g,i,none⟩ v):=(Only.refl _ _).setCell (Or.inl (by simp)) _
 have hs:=h.blk.set_ i v
 rw[he] at hs
 exact⟨⟨hs,by rw[hb];exact o.blk h.by' (by have:=h.ne;simp;exact fun e=>this e.symm),by rw[hb];exact h.ln,h.big,by rw[hb];exact h.byt⟩,o⟩
theorem ASlab_z (g b n:Nat) (R:AR) (lv:Value) (c:Nat) (hc:c<18446744073709551616) (w:World) (h:ArIs w g b n R lv) (hok:AROk R):
  Calls Tryz.prog 118 #[.pointer (some ⟨g,0,none⟩),.int .u64 (c:Int)] w fun e w'=>e= .returned (.int .i64 ((R.slab c).2:Int))∧ArIs w' g b n (R.slab c).1 lv∧Only [g,b] w w':=by
 have c1:w.cell? ⟨g,1,none⟩=some (.int .i64 (R.slabs:Int)):=h.blk.cell 1
 have c2:w.cell? ⟨g,2,none⟩=some (.int .i64 (R.used:Int)):=h.blk.cell 2
 have f2:=h.blk.frozen 2
 have hln:=h.ln
 have hlen:=hok.len
 have hus:=hok.us
 have hs64:=hok.s64
 by_cases he:R.used=R.slabs
 ·have HR:=hid (show R.slab c=(R,0) by unfold AR.slab;rw[if_pos he])
  have e0:((R.used:Int)==(R.slabs:Int))=true:=by simp[he]
  have H:=hid h
  obtain⟨u,hu⟩: ∃u,u=R.used:=⟨_,rfl⟩
  obtain⟨sl,hsl⟩: ∃sl,sl=R.slabs:=⟨_,rfl⟩
  rw[←hu] at c2 e0
  rw[←hsl] at c1 e0
  clear h hok he hln hlen hus hs64 hu hsl f2
  go_enter Tryz.func118,Tryz.ntmps118
  go_upto_region 1 with fail
  go_quiet (fail)
  go_wp2
  go_ret
  rw[HR.out]
  exact⟨rfl,H.out.bel (by(repeat(first | exact Below.refl _ _ | (refine ba ?_ _) | (refine Below.drew ?_) | (refine below_drewN ?_ _) | (refine Below.alloc ?_ (by first | omega | (simp;done) | (simp;omega)) _) | (refine Below.setCell ?_ (by first | omega | (simp;done) | (simp;omega)) _) | (refine bx ?_ (by assumption)) | (refine Below.trans ?_ (Below.mono (by assumption) (by first | omega | (simp;done) | (simp;omega))))))),Only.of_below (by(repeat(first | exact Below.refl _ _ | (refine ba ?_ _) | (refine Below.drew ?_) | (refine below_drewN ?_ _) | (refine Below.alloc ?_ (by first | omega | (simp;done) | (simp;omega)) _) | (refine Below.setCell ?_ (by first | omega | (simp;done) | (simp;omega)) _) | (refine bx ?_ (by assumption)) | (refine Below.trans ?_ (Below.mono (by assumption) (by first | omega | (simp;done) | (simp;omega))))))) _⟩
 ·have hlt:R.used+1≤R.slabs:=by omega
  have HR:=hid (show R.slab c=(({ R with used:=R.used+1 }:AR).put (1024*(R.used+1)) c,R.used+1) by unfold AR.slab AR.put;rw[if_neg he])
  have e0:((R.used:Int)==(R.slabs:Int))=false:=by simp;omega
  obtain⟨u,hu⟩: ∃u,u=R.used:=⟨_,rfl⟩
  obtain⟨sl,hsl⟩: ∃sl,sl=R.slabs:=⟨_,rfl⟩
  obtain⟨W0,hW0⟩: ∃W0,W0=w.drewN 1:=⟨_,rfl⟩
  rw[←hu] at c2 e0
  rw[←hsl] at c1 e0
  have wu:IntKind.i64.wrap ((u:Int)+1)=((u+1:Nat):Int):=by rw[IntWalk.i64_in _ (by constructor<;>omega)];omega
  have wm:IntKind.i64.wrap (1024*((u+1:Nat):Int))=((1024*(u+1):Nat):Int):=by rw[IntWalk.i64_in _ (by constructor<;>omega)];omega
  have ST:=hid (fun(W:World) (hb:Below w.heap.size w W)=>(h.bel hb).set 2 (.int .i64 ((u+1:Nat):Int)) (arC_set2 b n R lv (u+1)) rfl)
  have PT:=hid (fun(W:World) (hW:ArIs W g b n { R with used:=u+1 } lv)=>APut_z g b n { R with used:=u+1 } lv (1024*(u+1)) c hc (by omega) W hW)
  have HU:=hid hu
  have H:=hid h
  clear h hok he hln hlen hus hs64 hu hsl hlt hW0
  go_enter Tryz.func118,Tryz.ntmps118
  go_upto_region 1 with fail
  go_quiet (fail)
  obtain⟨W0,hW0⟩: ∃W0,W0=w.drewN nq:=⟨_,rfl⟩
  have hb0:Below w.heap.size w W0:=by rw[hW0];(repeat(first | exact Below.refl _ _ | (refine ba ?_ _) | (refine Below.drew ?_) | (refine below_drewN ?_ _) | (refine Below.alloc ?_ (by first | omega | (simp;done) | (simp;omega)) _) | (refine Below.setCell ?_ (by first | omega | (simp;done) | (simp;omega)) _) | (refine bx ?_ (by assumption)) | (refine Below.trans ?_ (Below.mono (by assumption) (by first | omega | (simp;done) | (simp;omega))))))
  have d2:W0.cell? ⟨g,2,none⟩=some (.int .i64 (u:Int)):=by rw[hW0];exact c2
  have df2:W0.frozen? ⟨g,2,none⟩=false:=by rw[hW0];exact f2
  rw[←hW0]
  obtain⟨hA1,ho1⟩:=ST.out W0 hb0
  have d2s:(W0.setCell ⟨g,2,none⟩ (.int .i64 ((u+1:Nat):Int))).cell? ⟨g,2,none⟩=some (.int .i64 ((u+1:Nat):Int)):=hA1.blk.cell 2
  have PT1:=hid (PT.out _ hA1)
  have HO1:=hid ((Only.of_below hb0 [g]).trans ho1 (fun _ h=>Or.inl h))
  obtain⟨q,hq⟩: ∃q,q=u+1:=⟨_,rfl⟩
  rw[←hq] at wu wm d2s PT1 HO1
  have HQ:=hid hq
  clear hA1 ho1 hb0 hW0 c1 c2 f2 e0 hq
  go_wp2_with fail
  refine PT1.out.mono ?_
  rintro e w2 ⟨rfl,hA2,ho2⟩
  have d22:w2.cell? ⟨g,2,none⟩=some (.int .i64 (q:Int)):=hA2.blk.cell 2
  have HA2:=hid hA2
  have HO2:=hid ho2
  clear hA2 ho2
  go_wp2
  go_ret
  rw[HR.out]
  refine⟨?_,?_,?_⟩
  ·have:=HQ.out
   have:=HU.out
   subst this
   rw[HQ.out];rfl
  ·have:=HA2.out
   rw[HQ.out,HU.out] at this
   exact this
  ·exact(HO1.out.mono (by simp)).trans (HO2.out.mono (g:=[g,b]) (by simp)) (fun _ h=>Or.inl h)
theorem ATaken_z (g b n:Nat) (R:AR) (lv:Value) (s j:Nat) (hs:1024*s+16≤n) (hj:j≤62) (hw:(wdN R.bs (1024*s+8)).toNat+2^j<18446744073709551616) (w:World) (h:ArIs w g b n R lv):
  Calls Tryz.prog 119 #[.pointer (some ⟨g,0,none⟩),.int .i64 (s:Int),.int .i64 (j:Int)] w fun e w'=>e= .returned (.tuple #[])∧ArIs w' g b n (R.taken s j) lv∧Only [b] w w':=by
 have hbig:=h.big
 have hwb:=wdN_bounds h.byt (1024*s+8)
 obtain⟨a,ha⟩: ∃a,a=1024*s+8:=⟨_,rfl⟩
 obtain⟨m,hm⟩: ∃m:Nat,wdN R.bs a=(m:Int):=⟨(wdN R.bs a).toNat,by rw[ha];omega⟩
 have WR:=AWord_z g b n R lv a (by omega) w h
 rw[hm] at WR
 have WR:=hid WR
 rw[←ha,hm,Int.toNat_natCast] at hw
 have PT:=hid (APut_z g b n R lv a (m+2^j) hw (by omega) w h)
 have w1:IntKind.i64.wrap (1024*(s:Int))=1024*(s:Int):=by rw[IntWalk.i64_in _ (by constructor<;>omega)]
 have w2:IntKind.i64.wrap (1024*(s:Int)+8)=(a:Int):=by rw[IntWalk.i64_in _ (by constructor<;>omega)];omega
 have HT:=hid (show R.taken s j=R.put a (m+2^j) by unfold AR.taken;rw[←ha,hm,Int.toNat_natCast])
 have HA:=hid (⟨ha,hw⟩:_∧_)
 clear h hs hwb ha hm hw hbig
 go_enter Tryz.func119,Tryz.ntmps119
 go_wp2
 go_loopw [7,8] (fun bv iv wr=> ∃k:Nat,k≤j∧iv= .int .i64 (k:Int)∧bv= .int .u64 ((2^k:Nat):Int)∧w=wr) (fun _ iv _=>j- (intOf iv).toNat)
 case atStart=>exact⟨0,Nat.zero_le _,rfl,rfl,rfl⟩
 case round=>
  obtain⟨k,hk,rfl,rfl,rfl⟩:=hrel
  by_cases hkj:k<j
  ·have i1:(k:Int)< (j:Int):=by omega
   have i0:(0:Int)≤(k:Int):=by omega
   have hp:=Nat.pow_le_pow_right (n:=2) (by decide) (show k+1≤63 by omega)
   have h63:2^63=9223372036854775808:=by decide
   have e2:2^ (k+1)=2*2^k:=by rw[Nat.pow_succ,Nat.mul_comm]
   obtain⟨B,hB⟩: ∃B,B=2^k:=⟨_,rfl⟩
   rw[e2,h63,←hB] at hp
   rw[←hB] at e2
   rw[←hB]
   have wb:IntKind.u64.wrap (2*(B:Int))=((2*B:Nat):Int):=by rw[IntWalk.u64_in _ (by constructor<;>omega)];omega
   have HE:=hid e2
   have HK:=hid hkj
   clear hkj hk hp h63 e2 hB
   go_wp2
   go_roundw
   case rel=>exact⟨k+1,HK.out,by go_num,by rw[HE.out];first | done | rfl | (congr 1;omega),by first | rfl | trivial⟩
   case measure=>simp[intOf];have:=HK.out;omega
  ·obtain rfl:j=k:=by omega
   have i1: ¬(j:Int)< (j:Int):=by omega
   have hsum:=HA.out.2
   obtain⟨B,hB⟩: ∃B,B=2^j:=⟨_,rfl⟩
   rw[←hB] at PT HT hsum ⊢
   have wb:IntKind.u64.wrap ((m:Int)+(B:Int))=((m+B:Nat):Int):=by rw[IntWalk.u64_in _ (by constructor<;>omega)];omega
   obtain⟨X,hX⟩: ∃X,X=m+B:=⟨_,rfl⟩
   rw[←hX] at PT HT wb
   clear hk hkj hB hsum hX
   go_wp2_with fail
   refine WR.out.mono ?_
   rintro e w3 ⟨rfl,rfl⟩
   go_wp2_with fail
   refine PT.out.mono ?_
   rintro e w4 ⟨rfl,hA,ho⟩
   have HR:=hid (⟨hA,ho⟩:_∧_)
   clear hA ho
   go_wp2
   refine bodyPost_end (v:= .tuple #[]) (by simp[results,Tryz.results119,go_sem]) rfl ?_
   rw[HT.out]
   exact⟨rfl,HR.out.1,HR.out.2⟩
def AR.newValue0 (R:AR):AR:=if R.value=0∨R.values=15 then{ (R.slab 1).1 with value:=(R.slab 1).2,values:=0 } else R
def AR.newValue (R:AR):AR×Nat:=if R.newValue0.value=0 then(R.newValue0,0) else({ R.newValue0.taken R.newValue0.value R.newValue0.values with values:=R.newValue0.values+1 },1024*R.newValue0.value+64*(R.newValue0.values+1))
def AR.newNode0 (R:AR):AR:=if R.node=0∨R.nodes=5 then{ (R.slab 3).1 with node:=(R.slab 3).2,nodes:=0 } else R
def AR.newNode (R:AR):AR×Nat:=if R.newNode0.node=0 then(R.newNode0,0) else({ R.newNode0.taken R.newNode0.node R.newNode0.nodes with nodes:=R.newNode0.nodes+1 },1024*R.newNode0.node+64+192*R.newNode0.nodes)
theorem AROk.slab {R:AR} (h:AROk R) {c:Nat}:(R.slab c).1.bs.length=R.bs.length∧(R.slab c).1.slabs=R.slabs∧(R.slab c).1.used≤R.slabs∧R.used≤(R.slab c).1.used∧(R.slab c).2≤(R.slab c).1.used∧(∀x∈(R.slab c).1.bs,0≤x∧x<256)∧
  (R.slab c).1.value=R.value∧(R.slab c).1.values=R.values∧(R.slab c).1.node=R.node∧(R.slab c).1.nodes=R.nodes∧
  (∀s,wdN (R.slab c).1.bs (1024*s+8)=wdN R.bs (1024*s+8))∧((R.slab c).2≠0→R.used< (R.slab c).2):=by
 have hlen:=h.len
 unfold AR.slab
 by_cases he:R.used=R.slabs
 ·rw[if_pos he]
  exact⟨rfl,rfl,h.us,Nat.le_refl _,Nat.zero_le _,h.byt,rfl,rfl,rfl,rfl,fun _=>rfl,fun h=>absurd rfl h⟩
 ·rw[if_neg he]
  have hus:=h.us
  have hb:1024*(R.used+1)+8≤R.bs.length:=by omega
  refine⟨putW_len _ hb,rfl,by show R.used+1≤_;omega,by show R.used≤R.used+1;omega,Nat.le_refl _,putW_byte h.byt _ _,rfl,rfl,rfl,rfl,fun s=>wdN_other hb (by omega),fun _=>by show R.used<R.used+1;omega⟩
theorem AROk.newValue0 {R:AR} (h:AROk R):AROk R.newValue0:=by
 unfold AR.newValue0
 by_cases hv:R.value=0∨R.values=15
 ·rw[if_pos hv]
  obtain⟨q1,q2,q3,q4,q5,q6,q7,q8,q9,q10,q11,q12⟩:=h.slab (c:=1)
  refine⟨by rw[show({ (R.slab 1).1 with value:=(R.slab 1).2,values:=0 }:AR).bs.length=(R.slab 1).1.bs.length from rfl,q1,h.len];show _=1024*((R.slab 1).1.slabs+1);rw[q2],by show(R.slab 1).1.slabs≤64;rw[q2];exact h.s64,by show(R.slab 1).1.used≤(R.slab 1).1.slabs;rw[q2];exact q3,q5,by show(R.slab 1).1.node≤(R.slab 1).1.used;rw[q9];exact Nat.le_trans h.nod q4,Nat.zero_le _,by show(R.slab 1).1.nodes≤5;rw[q10];exact h.ns,q6,fun s h1 h2=> ?_,fun hn=> ?_,fun hn=> ?_,fun h1 h2=> ?_⟩
  ·show wdN (R.slab 1).1.bs _=0
   have h1':(R.slab 1).1.used<s:=h1
   have h2':s≤(R.slab 1).1.slabs:=h2
   rw[q11];exact h.fresh s (by omega) (by rw[←q2];exact h2')
  ·show wdN (R.slab 1).1.bs (1024*(R.slab 1).2+8)=2^0-1
   have hn':(R.slab 1).2≠0:=hn
   rw[q11,h.fresh _ (q12 hn') (by omega)];rfl
  ·show wdN (R.slab 1).1.bs (1024*(R.slab 1).1.node+8)=2^ (R.slab 1).1.nodes-1
   have hn':(R.slab 1).1.node≠0:=hn
   rw[q9] at hn' ⊢
   rw[q11,q10]
   exact h.hn hn'
  ·show(R.slab 1).2≠(R.slab 1).1.node
   have h1':(R.slab 1).2≠0:=h1
   have:=q12 h1'
   have:=h.nod
   rw[q9];omega
 ·rw[if_neg hv];exact h
theorem AROk.newNode0 {R:AR} (h:AROk R):AROk R.newNode0:=by
 unfold AR.newNode0
 by_cases hv:R.node=0∨R.nodes=5
 ·rw[if_pos hv]
  obtain⟨q1,q2,q3,q4,q5,q6,q7,q8,q9,q10,q11,q12⟩:=h.slab (c:=3)
  refine⟨by rw[show({ (R.slab 3).1 with node:=(R.slab 3).2,nodes:=0 }:AR).bs.length=(R.slab 3).1.bs.length from rfl,q1,h.len];show _=1024*((R.slab 3).1.slabs+1);rw[q2],by show(R.slab 3).1.slabs≤64;rw[q2];exact h.s64,by show(R.slab 3).1.used≤(R.slab 3).1.slabs;rw[q2];exact q3,by show(R.slab 3).1.value≤(R.slab 3).1.used;rw[q7];exact Nat.le_trans h.val q4,q5,by show(R.slab 3).1.values≤15;rw[q8];exact h.vs,Nat.zero_le _,q6,fun s h1 h2=> ?_,fun hn=> ?_,fun hn=> ?_,fun h1 h2=> ?_⟩
  ·show wdN (R.slab 3).1.bs _=0
   have h1':(R.slab 3).1.used<s:=h1
   have h2':s≤(R.slab 3).1.slabs:=h2
   rw[q11];exact h.fresh s (by omega) (by rw[←q2];exact h2')
  ·show wdN (R.slab 3).1.bs (1024*(R.slab 3).1.value+8)=2^ (R.slab 3).1.values-1
   have hn':(R.slab 3).1.value≠0:=hn
   rw[q7] at hn' ⊢
   rw[q11,q8]
   exact h.hv hn'
  ·show wdN (R.slab 3).1.bs (1024*(R.slab 3).2+8)=2^0-1
   have hn':(R.slab 3).2≠0:=hn
   rw[q11,h.fresh _ (q12 hn') (by omega)];rfl
  ·show(R.slab 3).1.value≠(R.slab 3).2
   have h2':(R.slab 3).2≠0:=h2
   have:=q12 h2'
   have:=h.val
   rw[q7];omega
 ·rw[if_neg hv];exact h
theorem newValue0_room (R:AR):R.newValue0.value≠0→R.newValue0.values≠15:=by
 unfold AR.newValue0
 by_cases hv:R.value=0∨R.values=15
 ·rw[if_pos hv];intro _;show(0:Nat)≠15;decide
 ·rw[if_neg hv];intro _ h;exact hv (Or.inr h)
theorem newNode0_room (R:AR):R.newNode0.node≠0→R.newNode0.nodes≠5:=by
 unfold AR.newNode0
 by_cases hv:R.node=0∨R.nodes=5
 ·rw[if_pos hv];intro _;show(0:Nat)≠5;decide
 ·rw[if_neg hv];intro _ h;exact hv (Or.inr h)
theorem pow_small {k:Nat} (h:k≤15):(2:Nat)^k≤32768:=Nat.pow_le_pow_right (n:=2) (by decide) h
theorem ANewValue_z (g b n:Nat) (R:AR) (lv:Value) (w:World) (h:ArIs w g b n R lv) (hok:AROk R):
  Calls Tryz.prog 69 #[.pointer (some ⟨g,0,none⟩)] w fun e w'=>e= .returned (.int .i64 (R.newValue.2:Int))∧ArIs w' g b n R.newValue.1 lv∧Only [g,b] w w':=by
 have c3:w.cell? ⟨g,3,none⟩=some (.int .i64 (R.value:Int)):=h.blk.cell 3
 have c4:w.cell? ⟨g,4,none⟩=some (.int .i64 (R.values:Int)):=h.blk.cell 4
 have f3:=h.blk.frozen 3
 have SL:=hid (show Calls Tryz.prog 118 #[.pointer (some ⟨g,0,none⟩),.int .u64 1] w fun e w'=>e= .returned (.int .i64 ((R.slab 1).2:Int))∧ArIs w' g b n (R.slab 1).1 lv∧Only [g,b] w w' from ASlab_z g b n R lv 1 (by omega) w h hok)
 have hok0:=hok.newValue0
 have hroom:=newValue0_room R
 have hlen:=hok0.len
 have hln0:n=R.bs.length:=h.ln
 have HSL:=hid (hok.slab (c:=1))
 obtain⟨R0,hR0⟩: ∃R0,R0=R.newValue0:=⟨_,rfl⟩
 rw[←hR0] at hok0 hroom hlen
 have HR0:=hid hR0
 have HOK0:=hid (⟨hok0,hroom⟩:_∧_)
 have HN:=hid (show R.newValue=if R0.value=0 then(R0,0) else({ R0.taken R0.value R0.values with values:=R0.values+1 },1024*R0.value+64*(R0.values+1)) by unfold AR.newValue;rw[hR0])
 have H:=hid h
 have HYES:=hid (fun(hv:R.value=0∨R.values=15)=>show R.newValue0={ (R.slab 1).1 with value:=(R.slab 1).2,values:=0 } by unfold AR.newValue0;rw[if_pos hv])
 have HNO:=hid (fun(hv: ¬(R.value=0∨R.values=15))=>show R.newValue0=R by unfold AR.newValue0;rw[if_neg hv])
 clear hok hok0 hroom hlen hln0 hR0 h
 obtain⟨x3,hx3⟩: ∃x,x=R.value:=⟨_,rfl⟩
 obtain⟨x4,hx4⟩: ∃x,x=R.values:=⟨_,rfl⟩
 rw[←hx3] at c3 HYES HNO
 rw[←hx4] at c4 HYES HNO
 have HXX:=hid (⟨hx3,hx4⟩:_∧_)
 clear hx3 hx4
 go_enter Tryz.func69,Tryz.ntmps69
 go_upto_region 1 with fail
 go_cut [14] from 3 to 14 (fun s wc=>s= .bool (decide (x3=0∨x4=15))∧Hid (wc=w))
 case first=>
  by_cases q1:x3=0
  ·have b1:((x3:Int)==0)=true:=by simp[q1]
   have HD:=hid (show decide (x3=0∨x4=15)=true by simp[q1])
   clear q1
   go_wp2_with fail
   go_meet
   exact⟨by rw[HD.out],rfl⟩
  ·have b1:((x3:Int)==0)=false:=by simp;omega
   by_cases q2:x4=15
   ·have b2:((x4:Int)==15)=true:=by simp[q2]
    have HD:=hid (show decide (x3=0∨x4=15)=true by simp[q2])
    clear q1 q2
    go_wp2_with fail
    go_meet
    exact⟨by rw[HD.out],rfl⟩
   ·have b2:((x4:Int)==15)=false:=by simp;omega
    have HD:=hid (show decide (x3=0∨x4=15)=false by simp[q1,q2])
    clear q1 q2
    go_wp2_with fail
    go_meet
    exact⟨by rw[HD.out],rfl⟩
 case rest=>
  obtain⟨rfl,hwc⟩:=hcut
  obtain rfl:=hwc.out
  clear hwc
  have hO:ArIs wc g b n R lv:=H.out
  go_upto_if 14 with fail
  go_cut [] from 3 to 22 (fun wd=>Hid (ArIs wd g b n R0 lv∧Only [g,b] wc wd))
  case first=>
   by_cases q:x3=0∨x4=15
   ·rw[decide_eq_true q]
    have HY:=hid (HYES.out q)
    clear q c3 c4 f3
    go_wp2_with fail
    refine SL.out.mono ?_
    rintro e w2 ⟨rfl,hA2,ho2⟩
    obtain⟨sl,hsl⟩: ∃sl,sl=(R.slab 1).2:=⟨_,rfl⟩
    rw[←hsl]
    obtain⟨hA3,ho3⟩:=hA2.set 3 (.int .i64 (sl:Int)) (arC_set3 b n _ lv sl) rfl
    obtain⟨hA4,ho4⟩:=hA3.set 4 (.int .i64 ((0:Nat):Int)) (arC_set4 b n _ lv 0) rfl
    have d3: ∃x,w2.cell? ⟨g,3,none⟩=some x:=⟨_,hA2.blk.cell 3⟩
    obtain⟨y3,d3⟩:=d3
    have df3:=hA2.blk.frozen 3
    have d4: ∃x,(w2.setCell ⟨g,3,none⟩ (.int .i64 (sl:Int))).cell? ⟨g,4,none⟩=some x:=⟨_,hA3.blk.cell 4⟩
    obtain⟨y4,d4⟩:=d4
    have df4:=hA3.blk.frozen 4
    have HF:Hid (ArIs ((w2.setCell ⟨g,3,none⟩ (.int .i64 (sl:Int))).setCell ⟨g,4,none⟩ (.int .i64 0)) g b n R0 lv∧Only [g,b] wc ((w2.setCell ⟨g,3,none⟩ (.int .i64 (sl:Int))).setCell ⟨g,4,none⟩ (.int .i64 0))):=by
     rw[HR0.out,HY.out,←hsl]
     exact hid ⟨hA4,(ho2.trans (ho3.mono (g:=[g,b]) (by simp)) (fun _ h=>Or.inl h)).trans (ho4.mono (g:=[g,b]) (by simp)) (fun _ h=>Or.inl h)⟩
    clear hA2 ho2 hA3 ho3 hA4 ho4 hsl hO
    go_wp2
    go_meet
    exact HF
   ·rw[decide_eq_false q]
    have HY:=hid (HNO.out q)
    clear q c3 c4 f3
    go_wp2
    go_meet
    exact hid ⟨by rw[HR0.out,HY.out];exact hO,Only.refl _ _⟩
  case rest=>
   obtain⟨hA,ho⟩:=hcut.out
   obtain⟨hok0,hroom⟩:=HOK0.out
   have hbig:=hA.big
   have hln0:n=R0.bs.length:=hA.ln
   have hlen:=hok0.len
   have hs64:=hok0.s64
   have hus:=hok0.us
   have hval:=hok0.val
   have hvs:=hok0.vs
   have c3:wc.cell? ⟨g,3,none⟩=some (.int .i64 (R0.value:Int)):=hA.blk.cell 3
   have c4:wc.cell? ⟨g,4,none⟩=some (.int .i64 (R0.values:Int)):=hA.blk.cell 4
   by_cases qv:R0.value=0
   ·have b3:((R0.value:Int)==0)=true:=by simp[qv]
    have HR:=hid (show R.newValue=(R0,0) by rw[HN.out,if_pos qv])
    have HA:=hid (⟨hA,ho⟩:_∧_)
    obtain⟨vv,hvv⟩: ∃x,x=R0.value:=⟨_,rfl⟩
    rw[←hvv] at c3 b3
    clear hok0 hroom hA ho hcut hO hbig hln0 hlen hs64 hus hval hvs qv hvv c4
    go_wp2
    go_ret
    rw[HR.out]
    exact⟨rfl,HA.out.1,HA.out.2⟩
   ·have b3:((R0.value:Int)==0)=false:=by simp;omega
    have hlt:R0.values≤15-1:=by have:=hroom qv;omega
    have HR:=hid (show R.newValue=({ R0.taken R0.value R0.values with values:=R0.values+1 },1024*R0.value+64*(R0.values+1)) by rw[HN.out,if_neg qv])
    have hpw:=hok0.hv qv
    have hp1:=pow_small (show R0.values≤15 by omega)
    have hpe:((2:Int)^R0.values)=((2^R0.values:Nat):Int):=by simp
    have hp0:1≤2^R0.values:=Nat.one_le_two_pow
    have TK: ∀W,ArIs W g b n R0 lv→_:=fun W hW=>ATaken_z g b n R0 lv R0.value R0.values (by omega) (by omega) (by rw[hpw,hpe];generalize 2^R0.values=P at hp1 hp0 ⊢;omega) W hW
    have TK:=hid TK
    have HA:=hid hA
    have HO:=hid ho
    obtain⟨vv,hvv⟩: ∃x,x=R0.value:=⟨_,rfl⟩
    obtain⟨vs,hvs'⟩: ∃x,x=R0.values:=⟨_,rfl⟩
    rw[←hvv] at c3 b3 TK HR hval
    rw[←hvs'] at c4 TK HR hlt
    obtain⟨Y,hY⟩: ∃Y,Y=vs+1:=⟨_,rfl⟩
    have HY:=hid hY
    have wi:IntKind.i64.wrap ((vs:Int)+1)=(Y:Int):=by rw[IntWalk.i64_in _ (by constructor<;>omega)];omega
    have HVV:=hid hvv
    have HVS:=hid hvs'
    obtain⟨X,hX⟩: ∃X:Nat,X=1024*vv+64*(vs+1):=⟨_,rfl⟩
    have w1:IntKind.i64.wrap (1024*(vv:Int))=1024*(vv:Int):=by rw[IntWalk.i64_in _ (by constructor<;>omega)]
    have w2:IntKind.i64.wrap (64*(Y:Int))=64*(Y:Int):=by rw[IntWalk.i64_in _ (by constructor<;>omega)]
    have w3:IntKind.i64.wrap (1024*(vv:Int)+64*(Y:Int))=(X:Int):=by rw[IntWalk.i64_in _ (by constructor<;>omega)];omega
    have HX:=hid hX
    clear hX
    clear hok0 hroom hA ho hcut hO hbig hln0 hlen hs64 hus hvs hval qv hvv hvs' hpw hpe hp1 hp0 hlt hY
    go_upto_region 6 with fail
    refine wp_region_still_tail 9 (by kernel_rfl) (by kernel_rfl) ?_
    simp only[List.take_succ_cons,List.take_zero,List.drop_succ_cons,List.drop_zero]
    repeat still_step
    refine wpStill_nil ?_
    change wpList _ _ _ _ _ wc.drew
    have HD:=hid (HA.out.bel (W':=wc.drew) ⟨rfl,rfl,rfl,Nat.le_refl _,fun _ _=>rfl⟩)
    have HOD:=hid (HO.out.drew)
    have TK:=hid (TK.out _ HD.out)
    clear c3 c4
    generalize wc.drew=w2 at TK HD HOD ⊢
    go_wp2_with fail
    refine TK.out.mono ?_
    rintro e w3 ⟨rfl,hA3,ho3⟩
    obtain⟨hA4,ho4⟩:=hA3.set 4 (.int .i64 (Y:Int)) (arC_set4 b n _ lv Y) rfl
    have c4:w3.cell? ⟨g,4,none⟩=some (.int .i64 (vs:Int)):=by have:=hA3.blk.cell 4;rw[HVS.out];exact this
    have f4:=hA3.blk.frozen 4
    have d3:(w3.setCell ⟨g,4,none⟩ (.int .i64 (Y:Int))).cell? ⟨g,3,none⟩=some (.int .i64 (vv:Int)):=by have:=hA4.blk.cell 3;rw[HVV.out];exact this
    have d4:(w3.setCell ⟨g,4,none⟩ (.int .i64 (Y:Int))).cell? ⟨g,4,none⟩=some (.int .i64 (Y:Int)):=hA4.blk.cell 4
    have HF:=hid (⟨hA4,(HOD.out.trans (ho3.mono (g:=[g,b]) (by simp)) (fun _ h=>Or.inl h)).trans (ho4.mono (g:=[g,b]) (by simp)) (fun _ h=>Or.inl h)⟩:_∧_)
    clear hA3 ho3 hA4 ho4
    go_upto_region 8 with fail
    generalize w3.setCell ⟨g,4,none⟩ (.int .i64 (Y:Int))=w5 at HF d3 d4 ⊢
    go_quiet (fail)
    go_wp2
    go_ret
    rw[HR.out]
    refine⟨?_,?_,?_⟩
    ·show Ending.returned (Value.int .i64 (X:Int))=Ending.returned (Value.int .i64 ((1024*vv+64*(vs+1):Nat):Int))
     rw[HX.out]
    ·have h9:=HF.out.1.bel (W':=w5.drewN nq) (by(repeat(first | exact Below.refl _ _ | (refine ba ?_ _) | (refine Below.drew ?_) | (refine below_drewN ?_ _) | (refine Below.alloc ?_ (by first | omega | (simp;done) | (simp;omega)) _) | (refine Below.setCell ?_ (by first | omega | (simp;done) | (simp;omega)) _) | (refine bx ?_ (by assumption)) | (refine Below.trans ?_ (Below.mono (by assumption) (by first | omega | (simp;done) | (simp;omega)))))))
     rw[HY.out] at h9
     exact h9
    ·exact HF.out.2.trans (Only.of_below (by(repeat(first | exact Below.refl _ _ | (refine ba ?_ _) | (refine Below.drew ?_) | (refine below_drewN ?_ _) | (refine Below.alloc ?_ (by first | omega | (simp;done) | (simp;omega)) _) | (refine Below.setCell ?_ (by first | omega | (simp;done) | (simp;omega)) _) | (refine bx ?_ (by assumption)) | (refine Below.trans ?_ (Below.mono (by assumption) (by first | omega | (simp;done) | (simp;omega))))))) _) (fun _ h=>Or.inl h)
theorem ANewNode_z (g b n:Nat) (R:AR) (lv:Value) (w:World) (h:ArIs w g b n R lv) (hok:AROk R):
  Calls Tryz.prog 120 #[.pointer (some ⟨g,0,none⟩)] w fun e w'=>e= .returned (.int .i64 (R.newNode.2:Int))∧ArIs w' g b n R.newNode.1 lv∧Only [g,b] w w':=by
 have c3:w.cell? ⟨g,5,none⟩=some (.int .i64 (R.node:Int)):=h.blk.cell 5
 have c4:w.cell? ⟨g,6,none⟩=some (.int .i64 (R.nodes:Int)):=h.blk.cell 6
 have f3:=h.blk.frozen 5
 have SL:=hid (show Calls Tryz.prog 118 #[.pointer (some ⟨g,0,none⟩),.int .u64 3] w fun e w'=>e= .returned (.int .i64 ((R.slab 3).2:Int))∧ArIs w' g b n (R.slab 3).1 lv∧Only [g,b] w w' from ASlab_z g b n R lv 3 (by omega) w h hok)
 have hok0:=hok.newNode0
 have hroom:=newNode0_room R
 have hlen:=hok0.len
 have hln0:n=R.bs.length:=h.ln
 have HSL:=hid (hok.slab (c:=3))
 obtain⟨R0,hR0⟩: ∃R0,R0=R.newNode0:=⟨_,rfl⟩
 rw[←hR0] at hok0 hroom hlen
 have HR0:=hid hR0
 have HOK0:=hid (⟨hok0,hroom⟩:_∧_)
 have HN:=hid (show R.newNode=if R0.node=0 then(R0,0) else({ R0.taken R0.node R0.nodes with nodes:=R0.nodes+1 },1024*R0.node+64+192*R0.nodes) by unfold AR.newNode;rw[hR0])
 have H:=hid h
 have HYES:=hid (fun(hv:R.node=0∨R.nodes=5)=>show R.newNode0={ (R.slab 3).1 with node:=(R.slab 3).2,nodes:=0 } by unfold AR.newNode0;rw[if_pos hv])
 have HNO:=hid (fun(hv: ¬(R.node=0∨R.nodes=5))=>show R.newNode0=R by unfold AR.newNode0;rw[if_neg hv])
 clear hok hok0 hroom hlen hln0 hR0 h
 obtain⟨x3,hx3⟩: ∃x,x=R.node:=⟨_,rfl⟩
 obtain⟨x4,hx4⟩: ∃x,x=R.nodes:=⟨_,rfl⟩
 rw[←hx3] at c3 HYES HNO
 rw[←hx4] at c4 HYES HNO
 have HXX:=hid (⟨hx3,hx4⟩:_∧_)
 clear hx3 hx4
 go_enter Tryz.func120,Tryz.ntmps120
 go_upto_region 1 with fail
 go_cut [14] from 3 to 14 (fun s wc=>s= .bool (decide (x3=0∨x4=5))∧Hid (wc=w))
 case first=>
  by_cases q1:x3=0
  ·have b1:((x3:Int)==0)=true:=by simp[q1]
   have HD:=hid (show decide (x3=0∨x4=5)=true by simp[q1])
   clear q1
   go_wp2_with fail
   go_meet
   exact⟨by rw[HD.out],rfl⟩
  ·have b1:((x3:Int)==0)=false:=by simp;omega
   by_cases q2:x4=5
   ·have b2:((x4:Int)==5)=true:=by simp[q2]
    have HD:=hid (show decide (x3=0∨x4=5)=true by simp[q2])
    clear q1 q2
    go_wp2_with fail
    go_meet
    exact⟨by rw[HD.out],rfl⟩
   ·have b2:((x4:Int)==5)=false:=by simp;omega
    have HD:=hid (show decide (x3=0∨x4=5)=false by simp[q1,q2])
    clear q1 q2
    go_wp2_with fail
    go_meet
    exact⟨by rw[HD.out],rfl⟩
 case rest=>
  obtain⟨rfl,hwc⟩:=hcut
  obtain rfl:=hwc.out
  clear hwc
  have hO:ArIs wc g b n R lv:=H.out
  go_upto_if 14 with fail
  go_cut [] from 3 to 22 (fun wd=>Hid (ArIs wd g b n R0 lv∧Only [g,b] wc wd))
  case first=>
   by_cases q:x3=0∨x4=5
   ·rw[decide_eq_true q]
    have HY:=hid (HYES.out q)
    clear q c3 c4 f3
    go_wp2_with fail
    refine SL.out.mono ?_
    rintro e w2 ⟨rfl,hA2,ho2⟩
    obtain⟨sl,hsl⟩: ∃sl,sl=(R.slab 3).2:=⟨_,rfl⟩
    rw[←hsl]
    obtain⟨hA3,ho3⟩:=hA2.set 5 (.int .i64 (sl:Int)) (arC_set5 b n _ lv sl) rfl
    obtain⟨hA4,ho4⟩:=hA3.set 6 (.int .i64 ((0:Nat):Int)) (arC_set6 b n _ lv 0) rfl
    have d3: ∃x,w2.cell? ⟨g,5,none⟩=some x:=⟨_,hA2.blk.cell 5⟩
    obtain⟨y3,d3⟩:=d3
    have df3:=hA2.blk.frozen 5
    have d4: ∃x,(w2.setCell ⟨g,5,none⟩ (.int .i64 (sl:Int))).cell? ⟨g,6,none⟩=some x:=⟨_,hA3.blk.cell 6⟩
    obtain⟨y4,d4⟩:=d4
    have df4:=hA3.blk.frozen 6
    have HF:Hid (ArIs ((w2.setCell ⟨g,5,none⟩ (.int .i64 (sl:Int))).setCell ⟨g,6,none⟩ (.int .i64 0)) g b n R0 lv∧Only [g,b] wc ((w2.setCell ⟨g,5,none⟩ (.int .i64 (sl:Int))).setCell ⟨g,6,none⟩ (.int .i64 0))):=by
     rw[HR0.out,HY.out,←hsl]
     exact hid ⟨hA4,(ho2.trans (ho3.mono (g:=[g,b]) (by simp)) (fun _ h=>Or.inl h)).trans (ho4.mono (g:=[g,b]) (by simp)) (fun _ h=>Or.inl h)⟩
    clear hA2 ho2 hA3 ho3 hA4 ho4 hsl hO
    go_wp2
    go_meet
    exact HF
   ·rw[decide_eq_false q]
    have HY:=hid (HNO.out q)
    clear q c3 c4 f3
    go_wp2
    go_meet
    exact hid ⟨by rw[HR0.out,HY.out];exact hO,Only.refl _ _⟩
  case rest=>
   obtain⟨hA,ho⟩:=hcut.out
   obtain⟨hok0,hroom⟩:=HOK0.out
   have hbig:=hA.big
   have hln0:n=R0.bs.length:=hA.ln
   have hlen:=hok0.len
   have hs64:=hok0.s64
   have hus:=hok0.us
   have hval:=hok0.nod
   have hvs:=hok0.ns
   have c3:wc.cell? ⟨g,5,none⟩=some (.int .i64 (R0.node:Int)):=hA.blk.cell 5
   have c4:wc.cell? ⟨g,6,none⟩=some (.int .i64 (R0.nodes:Int)):=hA.blk.cell 6
   by_cases qv:R0.node=0
   ·have b3:((R0.node:Int)==0)=true:=by simp[qv]
    have HR:=hid (show R.newNode=(R0,0) by rw[HN.out,if_pos qv])
    have HA:=hid (⟨hA,ho⟩:_∧_)
    obtain⟨vv,hvv⟩: ∃x,x=R0.node:=⟨_,rfl⟩
    rw[←hvv] at c3 b3
    clear hok0 hroom hA ho hcut hO hbig hln0 hlen hs64 hus hval hvs qv hvv c4
    go_wp2
    go_ret
    rw[HR.out]
    exact⟨rfl,HA.out.1,HA.out.2⟩
   ·have b3:((R0.node:Int)==0)=false:=by simp;omega
    have hlt:R0.nodes≤5-1:=by have:=hroom qv;omega
    have HR:=hid (show R.newNode=({ R0.taken R0.node R0.nodes with nodes:=R0.nodes+1 },1024*R0.node+64+192*R0.nodes) by rw[HN.out,if_neg qv])
    have hpw:=hok0.hn qv
    have hp1:=pow_small (show R0.nodes≤15 by omega)
    have hpe:((2:Int)^R0.nodes)=((2^R0.nodes:Nat):Int):=by simp
    have hp0:1≤2^R0.nodes:=Nat.one_le_two_pow
    have TK: ∀W,ArIs W g b n R0 lv→_:=fun W hW=>ATaken_z g b n R0 lv R0.node R0.nodes (by omega) (by omega) (by rw[hpw,hpe];generalize 2^R0.nodes=P at hp1 hp0 ⊢;omega) W hW
    have TK:=hid TK
    have HA:=hid hA
    have HO:=hid ho
    obtain⟨vv,hvv⟩: ∃x,x=R0.node:=⟨_,rfl⟩
    obtain⟨vs,hvs'⟩: ∃x,x=R0.nodes:=⟨_,rfl⟩
    rw[←hvv] at c3 b3 TK HR hval
    rw[←hvs'] at c4 TK HR hlt
    obtain⟨Y,hY⟩: ∃Y,Y=vs+1:=⟨_,rfl⟩
    have HY:=hid hY
    have wi:IntKind.i64.wrap ((vs:Int)+1)=(Y:Int):=by rw[IntWalk.i64_in _ (by constructor<;>omega)];omega
    have HVV:=hid hvv
    have HVS:=hid hvs'
    obtain⟨X,hX⟩: ∃X:Nat,X=1024*vv+64+192*vs:=⟨_,rfl⟩
    have w1:IntKind.i64.wrap (1024*(vv:Int))=1024*(vv:Int):=by rw[IntWalk.i64_in _ (by constructor<;>omega)]
    have w2:IntKind.i64.wrap (1024*(vv:Int)+64)=1024*(vv:Int)+64:=by rw[IntWalk.i64_in _ (by constructor<;>omega)]
    have w4:IntKind.i64.wrap ((Y:Int)-1)=(vs:Int):=by rw[IntWalk.i64_in _ (by constructor<;>omega)];omega
    have w5:IntKind.i64.wrap (192*(vs:Int))=192*(vs:Int):=by rw[IntWalk.i64_in _ (by constructor<;>omega)]
    have w6:IntKind.i64.wrap (1024*(vv:Int)+64+192*(vs:Int))=(X:Int):=by rw[IntWalk.i64_in _ (by constructor<;>omega)];omega
    have HX:=hid hX
    clear hX
    clear hok0 hroom hA ho hcut hO hbig hln0 hlen hs64 hus hvs hval qv hvv hvs' hpw hpe hp1 hp0 hlt hY
    go_upto_region 6 with fail
    refine wp_region_still_tail 9 (by kernel_rfl) (by kernel_rfl) ?_
    simp only[List.take_succ_cons,List.take_zero,List.drop_succ_cons,List.drop_zero]
    repeat still_step
    refine wpStill_nil ?_
    change wpList _ _ _ _ _ wc.drew
    have HD:=hid (HA.out.bel (W':=wc.drew) ⟨rfl,rfl,rfl,Nat.le_refl _,fun _ _=>rfl⟩)
    have HOD:=hid (HO.out.drew)
    have TK:=hid (TK.out _ HD.out)
    clear c3 c4
    generalize wc.drew=w2 at TK HD HOD ⊢
    go_wp2_with fail
    refine TK.out.mono ?_
    rintro e w3 ⟨rfl,hA3,ho3⟩
    obtain⟨hA4,ho4⟩:=hA3.set 6 (.int .i64 (Y:Int)) (arC_set6 b n _ lv Y) rfl
    have c4:w3.cell? ⟨g,6,none⟩=some (.int .i64 (vs:Int)):=by have:=hA3.blk.cell 6;rw[HVS.out];exact this
    have f4:=hA3.blk.frozen 6
    have d3:(w3.setCell ⟨g,6,none⟩ (.int .i64 (Y:Int))).cell? ⟨g,5,none⟩=some (.int .i64 (vv:Int)):=by have:=hA4.blk.cell 5;rw[HVV.out];exact this
    have d4:(w3.setCell ⟨g,6,none⟩ (.int .i64 (Y:Int))).cell? ⟨g,6,none⟩=some (.int .i64 (Y:Int)):=hA4.blk.cell 6
    have HF:=hid (⟨hA4,(HOD.out.trans (ho3.mono (g:=[g,b]) (by simp)) (fun _ h=>Or.inl h)).trans (ho4.mono (g:=[g,b]) (by simp)) (fun _ h=>Or.inl h)⟩:_∧_)
    clear hA3 ho3 hA4 ho4
    go_upto_region 8 with fail
    generalize w3.setCell ⟨g,6,none⟩ (.int .i64 (Y:Int))=w5 at HF d3 d4 ⊢
    go_quiet (fail)
    go_wp2
    go_ret
    rw[HR.out]
    refine⟨?_,?_,?_⟩
    ·show Ending.returned (Value.int .i64 (X:Int))=Ending.returned (Value.int .i64 ((1024*vv+64+192*vs:Nat):Int))
     rw[HX.out]
    ·have h9:=HF.out.1.bel (W':=w5.drewN nq) (by(repeat(first | exact Below.refl _ _ | (refine ba ?_ _) | (refine Below.drew ?_) | (refine below_drewN ?_ _) | (refine Below.alloc ?_ (by first | omega | (simp;done) | (simp;omega)) _) | (refine Below.setCell ?_ (by first | omega | (simp;done) | (simp;omega)) _) | (refine bx ?_ (by assumption)) | (refine Below.trans ?_ (Below.mono (by assumption) (by first | omega | (simp;done) | (simp;omega)))))))
     rw[HY.out] at h9
     exact h9
    ·exact HF.out.2.trans (Only.of_below (by(repeat(first | exact Below.refl _ _ | (refine ba ?_ _) | (refine Below.drew ?_) | (refine below_drewN ?_ _) | (refine Below.alloc ?_ (by first | omega | (simp;done) | (simp;omega)) _) | (refine Below.setCell ?_ (by first | omega | (simp;done) | (simp;omega)) _) | (refine bx ?_ (by assumption)) | (refine Below.trans ?_ (Below.mono (by assumption) (by first | omega | (simp;done) | (simp;omega))))))) _) (fun _ h=>Or.inl h)
end Go.Proofs.YtjmaicckkkdjpaaGreat
