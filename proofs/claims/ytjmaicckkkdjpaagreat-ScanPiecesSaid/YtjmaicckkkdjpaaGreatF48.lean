import Derived.Test.YtjmaicckkkdjpaaGreatF47
import Derived.Deep.RegionHeld3
/- slab.Of: the walk. -/
set_option maxRecDepth 100000
set_option maxHeartbeats 4000000
set_option linter.unusedVariables false
set_option linter.unusedSimpArgs false
namespace Go.Proofs.YtjmaicckkkdjpaaGreat
open Go.RowKit Go.Shelf
attribute [local go_sem] Oper.semAt_some
theorem Made.cellS {w W:World} {size:Int} {n k:Nat} {f:Nat→Nat} (h:Made w size n k f W) (hk:k<4):W.cell? ⟨w.heap.size+2,2+k,none⟩=some (.pointer none):=by
 rw[h.st.cell]
 have:k=0∨k=1∨k=2∨k=3:=by omega
 rcases this with rfl | rfl | rfl | rfl<;>rfl
theorem Made.step {w W W3:World} {size:Int} {n k:Nat} {f:Nat→Nat} {g:Nat} (h:Made w size n k f W) (hk:k<4) (hb:Below W.heap.size W W3) (hg:W.heap.size≤g) (hf:FreeRow W3 g (.slice none 0 0) []):
  Made w size n (k+1) (updN f k g) (W3.setCell ⟨w.heap.size+2,2+k,none⟩ (.pointer (some ⟨g,0,none⟩))):=by
 have hO:Only [w.heap.size+2] W3 (W3.setCell ⟨w.heap.size+2,2+k,none⟩ (.pointer (some ⟨g,0,none⟩))):=(Only.refl _ _).setCell (Or.inl (by simp)) _
 have hlt:=h.box.lt
 have hlo: ∀c,c<k→f c<W.heap.size:=fun c hc=>by
  obtain⟨t,hb⟩:=(h.fre c hc).blk
  exact hb.lt
 refine⟨?_,?_,hO.blk (h.hdr.bel hb) (by simp),?_,hO.blk (h.box.bel hb) (by simp),?_,?_,?_⟩
 ·exact(h.bel.trans (hb.mono h.bel.size)).setCell (by show w.heap.size≤w.heap.size+2;omega) _
 ·have h2:=(h.st.bel hb).set_ (2+k) (.pointer (some ⟨g,0,none⟩))
  have e:updN f k g k=g:=by unfold updN;rw[if_pos rfl]
  have e2: ∀j,j≠k→updN f k g j=f j:=fun j hj=>by unfold updN;rw[if_neg hj]
  have:k=0∨k=1∨k=2∨k=3:=by omega
  rcases this with rfl | rfl | rfl | rfl
  ·simpa[e] using h2
  ·simpa[e,e2] using h2
  ·simpa[e,e2] using h2
  ·simpa[e,e2] using h2
 ·have hm:w.heap.size+1<W.heap.size:=by omega
  exact(hO.block _ (Nat.lt_of_lt_of_le hm hb.size) (by simp)).trans ((hb.block _ hm).trans h.mp)
 ·intro c hc
  have hgl:=hf.blk
  unfold updN
  by_cases e:c=k
  ·simp only[if_pos e]
   exact hf.only hO (by simp;omega) (by simp[Value.ownBlock])
  ·simp only[if_neg e]
   have h1:=(h.fre c (by omega)).only (Only.of_below hb []) (by simp) (by simp)
   have:=h.far c (by omega)
   exact h1.only hO (by simp;omega) (by simp[Value.ownBlock])
 ·intro c d hc hd he
  unfold updN at he
  by_cases e1:c=k
  ·by_cases e2:d=k
   ·omega
   ·rw[if_pos e1,if_neg e2] at he
    have:=hlo d (by omega)
    omega
  ·by_cases e2:d=k
   ·rw[if_neg e1,if_pos e2] at he
    have:=hlo c (by omega)
    omega
   ·rw[if_neg e1,if_neg e2] at he
    exact h.inj c d (by omega) (by omega) he
 ·intro c hc
  unfold updN
  by_cases e1:c=k
  ·rw[if_pos e1];omega
  ·rw[if_neg e1];exact h.far c (by omega)
def markedS (D:Nat):Deferred:={ target:= .collected D,args:= #[] }
structure Boxes (w:World) (sb bq cb k cv:Nat) (B:SB) (V:Nat→Value) (Ds:List Nat) (W:World):Prop where
 bel:Below w.heap.size w W
 bx:Blk W bq 3 #[.int .i64 ((k:Int)+1)]
 bS:Blk W sb 147 #[.pointer (some ⟨B.s,0,none⟩)]
 bC:Blk W cb 25 #[.int .u64 (cv:Int)]
 lo:w.heap.size≤bq∧w.heap.size≤sb∧w.heap.size≤cb
 nf:bq∉foot B V∧sb∉foot B V∧cb∉foot B V
 ne:bq≠sb
 ds: ∀d∈Ds,W.heap[d]?=some (.deferred (some []))∧w.heap.size≤d
 dsf: ∀d∈Ds,d∉foot B V
 nd:Ds.Nodup
theorem Boxes.only {w W W':World} {sb bq cb k cv:Nat} {B:SB} {V V':Nat→Value} {Ds fs:List Nat} (h:Boxes w sb bq cb k cv B V Ds W) (ho:Only fs W W') (hl: ∀x∈fs,w.heap.size≤x)
  (h1:bq∉fs∧sb∉fs∧cb∉fs) (h2: ∀d∈Ds,d∉fs) (hv: ∀x∈foot B V',x∈foot B V∨W.heap.size≤x):Boxes w sb bq cb k cv B V' Ds W':=by
 have hds: ∀d∈Ds,d<W.heap.size:=fun d hd=>(Array.getElem?_eq_some_iff.1 (h.ds d hd).1).1
 have hnot: ∀x,x<W.heap.size→x∉foot B V→x∉foot B V':=fun x hx hn hm=>by
  rcases hv x hm with h | h
  ·exact hn h
  ·omega
 exact⟨h.bel.trans (ho.below hl h.bel.size),ho.blk h.bx h1.1,ho.blk h.bS h1.2.1,ho.blk h.bC h1.2.2,h.lo,⟨hnot _ h.bx.lt h.nf.1,hnot _ h.bS.lt h.nf.2.1,hnot _ h.bC.lt h.nf.2.2⟩,h.ne,
  fun d hd=>⟨(ho.block d (hds d hd) (h2 d hd)).trans (h.ds d hd).1,(h.ds d hd).2⟩,fun d hd=>hnot d (hds d hd) (h.dsf d hd),h.nd⟩
theorem Boxes.moved {w W W':World} {sb bq cb k cv:Nat} {B:SB} {V V':Nat→Value} {Ds:List Nat} {size:Int} {A:SA} (h:Boxes w sb bq cb k cv B V Ds W) (hs:SlabIs W w.heap.size B V size A) (m:Moved B V V' W W'):Boxes w sb bq cb k cv B V' Ds W':=
 h.only m.only (fun x hx=>by obtain⟨i,hi⟩:=foot_mem.1 hx;exact hs.lo i x hi) h.nf h.dsf m.foot
theorem Boxes.below {w W W':World} {sb bq cb k cv:Nat} {B:SB} {V:Nat→Value} {Ds:List Nat} (h:Boxes w sb bq cb k cv B V Ds W) (hb:Below W.heap.size W W'):Boxes w sb bq cb k cv B V Ds W':=
 h.only (Only.of_below hb []) (by simp) (by simp) (by simp) (fun _ h=>Or.inl h)
theorem foot_of_role {B:SB} {V V':Nat→Value} (h: ∀i,role B V' i=role B V i):foot B V'=foot B V:=by
 unfold foot
 rw[show role B V'=role B V from funext h]
structure BitI (w:World) (Z sb bq cb k cv:Nat) (B:SB) (V5:Nat→Value) (Ds:List Nat) (size:Int) (A5:SA) (pre:List (Fin 64)) (W:World):Prop where
 sz:Z≤W.heap.size
 sl: ∃V',SlabIs W w.heap.size B V' size (bitsSA A5 (k+1) cv pre)∧ ∀i,role B V' i=role B V5 i
 bo:Boxes w sb bq cb k cv B V5 Ds W
theorem BitI.grown {w A W:World} {sb bq cb k cv Z:Nat} {B:SB} {V5:Nat→Value} {Ds:List Nat} {size:Int} {A5:SA} {pre:List (Fin 64)} {row:Option Nat} (h:BitI w Z sb bq cb k cv B V5 Ds size A5 pre A) (hg:A.grownBy W row)
  (hz:w.heap.size≤Z∧bq<Z∧sb<Z∧cb<Z) (hd: ∀d∈Ds,d<Z) (hr5: ∀i k,role B V5 i=some k→k<Z) (hr: ∀r,row=some r→Z≤r):BitI w Z sb bq cb k cv B V5 Ds size A5 pre W:=by
 have ho:Only row.toList A W:=Only.of_grown hg (fun k hk=>by simp[hk])
 have hn: ∀x,x<Z→x∉row.toList:=fun x hx hm=>by
  have:=hr x (by simpa using hm)
  omega
 obtain⟨V',h1,h2⟩:=h.sl
 exact⟨Nat.le_trans h.sz hg.size,⟨V',h1.only ho (fun i x hi=>hn x (hr5 i x ((h2 i).symm.trans hi))),h2⟩,
  h.bo.only ho (fun x hx=>by have:=hr x (by simpa using hx);omega) ⟨hn _ hz.2.1,hn _ hz.2.2.1,hn _ hz.2.2.2⟩ (fun d hd'=>hn d (hd d hd')) (fun _ h=>Or.inl h)⟩
theorem role_upd {B:SB} {V:Nat→Value} {c:Nat} {v':Value} (hv:v'.ownBlock=(V c).ownBlock) (i:Nat):role B (updN V c v') i=role B V i:=by
 have: ∀j,(updN V c v' j).ownBlock=(V j).ownBlock:=fun j=>by
  unfold updN
  by_cases e:j=c
  ·rw[if_pos e,hv,e]
  ·rw[if_neg e]
 unfold role
 rw[this]
theorem leaves_marksS {F:Fence} {n:Nat} {P:Program} {fn:Func} {tmps:Array Value} {R:Ending→World→Prop}: ∀(Ds:List Nat) (W:World),(∀d∈Ds,W.heap[d]?=some (.deferred (some [])))→Ds.Nodup→
  (∀W',Only Ds W W'→LeavesInM F n P fn tmps R [] .returning W')→LeavesInM F n P fn tmps R (Ds.map markedS) .returning W
 | [],W,_,_,h=>h W (Only.refl _ _)
 | d::Ds,W,h1,h2,h3=>by
  have hO:Only (d::Ds) W (W.putObj d (.deferred none)):=(Only.refl _ _).putObj (Or.inl (by simp)) _
  refine⟨by simp,.inl ⟨d,_,rfl,run_takeDeferred (h1 d (by simp)),leaves_marksS Ds _ (fun e he=> ?_) (List.nodup_cons.1 h2).2 (fun W' h=>h3 W' (hO.trans h (fun x hx=>Or.inl (List.mem_cons_of_mem _ hx))))⟩⟩
  exact(World.putObj_heap_other (fun e'=>(List.nodup_cons.1 h2).1 (by subst e';exact he))).trans (h1 e (List.mem_cons_of_mem _ he))
structure SOfI (w:World) (sb n:Nat) (bs:List Int) (size:Int) (k bq:Nat) (B:SB) (V:Nat→Value) (Ds:List Nat) (W:World):Prop where
 sl:SlabIs W w.heap.size B V size (ofTo bs n k)
 ok: ∀i,1≤i→i≤k→headOK bs i=true
 bel:Below w.heap.size w W
 bx:Blk W bq 3 #[.int .i64 ((k:Int)+1)]
 bqlo:w.heap.size≤bq
 bqf: ∀i,role B V i≠some bq
 bS:Blk W sb 147 #[.pointer (some ⟨B.s,0,none⟩)]
 slo:w.heap.size≤sb
 sf: ∀i,role B V i≠some sb
 ne:bq≠sb
 ds: ∀d∈Ds,W.heap[d]?=some (.deferred (some []))∧w.heap.size≤d
 dsf: ∀i k,role B V i=some k→k∉Ds
 nd:Ds.Nodup
structure SOfPost (w:World) (bs:List Int) (n N:Nat) (e:Ending) (W':World):Prop where
 yes:(∀i,1≤i→i≤n→headOK bs i=true)→ ∃B V,e= .returned (.tuple #[.pointer (some ⟨B.s,0,none⟩),.int .i64 0])∧SlabIs W' w.heap.size B V (N:Int) (ofTo bs n n)
 no:(∃i,1≤i∧i≤n∧headOK bs i=false)→e= .returned (.tuple #[.pointer none,.int .i64 6])
 bel:Below w.heap.size w W'
theorem SOf_in (p:Option Addr) (cap:Nat) (bs:List Int) (n:Nat) (hn:1≤n∧n≤64) (hl:bs.length=1024*(n+1)) (w:World) (h:BytesIn w p cap bs):
  CallsIn Fence.wide 8 Tryz.prog 59 #[.slice p bs.length cap] w fun e W'=>
   SOfPost w bs n bs.length e W':=by
 have hs:slabsZ (bs.length:Int)=(n:Int):=by unfold slabsZ;rw[if_pos (by omega)];omega
 have hd:decide (0<slabsZ (bs.length:Int))=true:=by rw[hs];simp;omega
 have hS:=Slabs_z (bs.length:Int) w (by omega) (by omega)
 rw[hd,hs] at hS
 have hn:=hid hn
 obtain⟨N,hN⟩: ∃N,N=bs.length:=⟨_,rfl⟩
 rw[←hN] at hl hS ⊢
 obtain⟨q,hq⟩: ∃q,q=1+n:=⟨_,rfl⟩
 have hmk:=run_headsS q (by omega)
 have n1:(1:Int)+(n:Int)=(q:Int):=by omega
 have hmm: ∀w,(Instr.makeMap 198 none).run Tryz.prog w= .ok (.map (some w.heap.size)) (w.alloc (.map #[] 0)):=fun _=>rfl
 have HQ:=hid hq
 clear hq
 have HS:=hid hS
 have HN:=hid hN
 have HL:=hid hl
 have H:=hid h
 clear h hS hd hs hN hl
 refine callsIn_of_wp_marks Tryz.func59 rfl trivial ?_ rfl
 simp only[Tryz.ntmps59,List.size_toArray,List.length_cons,List.length_nil,Nat.reduceAdd,Nat.reduceSub,Array.replicate_succ,Array.replicate_zero,List.push_toArray,List.append_toArray,List.nil_append,List.cons_append]
 gi_wp2_with fail
 refine⟨trivial,(callsIn_wide.2 HS.out).mono ?_⟩
 rintro e w1 ⟨rfl,rfl⟩
 gi_wp2
 generalize hW:World.alloc _ (Obj.cells #[Value.pointer (some { block:=w.heap.size+1+1,off:=0 })] 147)=W4
 obtain⟨sb,hsb⟩: ∃sb,sb=w.heap.size+1+1+1:=⟨_,rfl⟩
 rw[←hsb]
 have hM:Made w (N:Int) n 0 (fun _=>0) W4:=by
  have e:q=1+n:=HQ.out
  subst e
  refine⟨?_,?_,?_,?_,?_,fun c hc=>absurd hc (Nat.not_lt_zero _),fun c _ hc=>absurd hc (Nat.not_lt_zero _),fun c hc=>absurd hc (Nat.not_lt_zero _)⟩
  ·rw[←hW];exact ba (ba (ba (ba (Below.refl _ _) _) _) _) _
  ·rw[←hW]
   have:=Blk.new ((w.alloc (Obj.cells (headC (List.replicate (1+n) (0,0))).toArray 208)).alloc (Obj.map #[] 0)) 202 #[Value.int IntKind.i64 ↑N,Value.slice (some { block:=w.heap.size,off:=0 }) (1+n) (1+n),Value.pointer none,Value.pointer none,Value.pointer none,Value.pointer none,Value.map (some (w.heap.size+1))]
   simp only[World.size_alloc] at this
   exact this.alloc _
  ·rw[←hW];exact(((Blk.new w _ _).alloc _).alloc _).alloc _
  ·rw[←hW]
   have h1:((w.alloc (Obj.cells (headC (List.replicate (1+n) (0,0))).toArray 208)).alloc (Obj.map #[] 0)).heap[w.heap.size+1]?=some (.map #[] 0):=by
    have:=World.alloc_heap_new (w.alloc (Obj.cells (headC (List.replicate (1+n) (0,0))).toArray 208)) (Obj.map #[] 0)
    simpa using this
   have h2:=(Array.getElem?_eq_some_iff.1 h1).1
   exact(Below.heap_alloc _ _ _ (by simp)).trans ((Below.heap_alloc _ _ _ h2).trans h1)
  ·rw[←hW]
   have:=Blk.new (((w.alloc (Obj.cells (headC (List.replicate (1+n) (0,0))).toArray 208)).alloc (Obj.map #[] 0)).alloc (Obj.cells #[Value.int IntKind.i64 ↑N,Value.slice (some { block:=w.heap.size,off:=0 }) (1+n) (1+n),Value.pointer none,Value.pointer none,Value.pointer none,Value.pointer none,Value.map (some (w.heap.size+1))] 202)) 147 #[Value.pointer (some { block:=w.heap.size+1+1,off:=0 })]
   simp only[World.size_alloc] at this
   exact this
 have HM0:=hid hM
 have HSB:=hid hsb
 clear hM hW hsb hmk hmm n1
 gi_loopw [29] (fun c wr=> ∃(k:Nat) (f:Nat→Nat),k≤4∧c= .int .i64 k∧Hid (Made w (N:Int) n k f wr)) (fun c _=>(4- (intOf c).toNat))
 case atStart=>exact⟨0,_,by omega,rfl,HM0⟩
 case round=>
  obtain⟨k,f,hk,rfl,hM⟩:=hrel
  by_cases hlt:k<4
  ·have k1:(0:Int)≤(k:Int):=by omega
   have k2:(k:Int)<4:=by omega
   have z0:wr.drew.cell? ⟨sb,0,none⟩=some (.pointer (some ⟨w.heap.size+2,0,none⟩)):=by rw[HSB.out];exact hM.out.box.cell 0
   have HL0:=hid (show sb<wr.heap.size by rw[HSB.out];exact hM.out.box.lt)
   gi_wp2_with fail
   refine wpIn_mono (Q:=CalmP _) ?_ CalmP.imp
   gi_region_with (first
    | (refine⟨trivial,?_⟩;gi_at_call 94;refine(callsIn_wide.2 (NewFree_z _)).mono ?_;rintro e w3 ⟨g,rfl,hg,hfr,hb⟩;have z3:w3.cell? ⟨sb,0,none⟩=some (.pointer (some ⟨w.heap.size+2,0,none⟩)):=(hb.cell (p:=⟨sb,0,none⟩) HL0.out).trans z0;have y3:w3.cell? ⟨w.heap.size+2,2+k,none⟩=some (.pointer none):=(hb.cell (p:=⟨w.heap.size+2,2+k,none⟩) (by have:=hM.out.st.lt;exact this)).trans (hM.out.cellS hlt);have f3:w3.frozen? ⟨w.heap.size+2,2+k,none⟩=false:=(hM.out.st.drew.bel hb).frozen _;have HG:=hid hg;have HFR:=hid hfr;have HB:=hid hb;clear hg hfr hb))
   all_goals
    refine CalmP.normal ?_
    try go_simp
    try simp only[Act.put,List.setIfInBounds_toArray,List.set_cons_zero,List.set_cons_succ]
    gi_wp2
    go_roundw
    case rel=>exact⟨k+1,updN f k g,by omega,by go_num,hM.out.step hlt ((belDrew wr).trans HB.out) HG.out HFR.out⟩
    case measure=>simp[intOf];omega
  ·obtain rfl:k=4:=by omega
   have hM4:=hM.out
   obtain⟨B,hB⟩: ∃B:SB,B=⟨w.heap.size+2,w.heap.size,w.heap.size+1,f 0,f 1,f 2,f 3⟩:=⟨_,rfl⟩
   have HM4:Hid (SlabIs wr w.heap.size B (fun _=> .slice none 0 0) (N:Int) (newSA n)):=by rw[hB];exact hM4.done
   have hsbl:sb<wr.heap.size:=by rw[HSB.out];exact hM4.box.lt
   have HI0:Hid (SOfI w sb n bs (N:Int) 0 wr.heap.size B (fun _=> .slice none 0 0) [] (wr.alloc (.cells #[.int .i64 1] 3))):=by
    refine⟨HM4.out.bel (ba (Below.refl _ _) _),fun i h1 h2=>by omega,hM4.bel.alloc hM4.bel.size _,Blk.new wr _ _,hM4.bel.size,fun i hi=> ?_,?_,by rw[HSB.out];omega,fun i hi=> ?_,by omega,fun d hd=>by(cases hd),fun i k _ hd=>by(cases hd),List.nodup_nil⟩
    ·have:=HM4.out.lt hi;omega
    ·have:=hM4.box.alloc (.cells #[.int .i64 1] 3)
     rw[HSB.out,hB];exact this
    ·rw[hB] at hi
     have h1:=hM4.done.apart
     rw[HSB.out] at hi
     have hl:(w.heap.size+1+1+1)<w.heap.size+4:=by omega
     unfold role at hi
     split at hi
     ·injection hi with hi;simp at hi
     ·split at hi
      ·injection hi with hi;simp at hi;omega
      ·split at hi
       ·injection hi with hi;simp at hi
       ·split at hi
        ·injection hi with hi
         have hf: ∀c,c<4→SB.f ⟨w.heap.size+2,w.heap.size,w.heap.size+1,f 0,f 1,f 2,f 3⟩ c=f c:=by
          intro c hc
          have:c=0∨c=1∨c=2∨c=3:=by omega
          rcases this with rfl | rfl | rfl | rfl<;>rfl
         rw[hf _ (by omega)] at hi
         have:=hM4.far (i-3) (by omega)
         omega
        ·split at hi
         ·cases hi
         ·cases hi
   clear hM HM0 hM4 HM4 hB hsbl
   gi_wp2
   refine wpIn_loop (fun(a:Act) (W:World)=> ∃(k bq:Nat) (V:Nat→Value) (Ds:List Nat),k≤n∧Ds.length=k∧Hid (SOfI w sb n bs (N:Int) k bq B V Ds W)∧ ∃u1 u2 u3 u5 u7 u9 u10 u11 u12 u13 u14 u15 u16 u17 u18 u19 u20 u21 u22 u23 u24 u25 u26 u27 u28 u29 u30 u31 u32 u33 u34 u35 u36 u37 u38 u39 u40 u41 u42 u43 u44 u45 u46 u47 u48 u49 u50 u51 u52 u53 u54 u55 u56 u57 u58 u59 u60 u61 u62 u63 u64 u65 u66 u67 u68 u69 u70 u71 u72 u73 u74 u75 u76 u77 u78 u79 u80 u81 u82 u83 u84 u85 u86 u87 u88 u89 u90 u91 u92 u93 u94 u95 u96 u97:Value,a={ tmps:= #[.slice p N cap,u1,u2,u3,.int .i64 (n:Int),u5,.pointer (some ⟨sb,0,none⟩),u7,.pointer (some ⟨bq,0,none⟩),u9,u10,u11,u12,u13,u14,u15,u16,u17,u18,u19,u20,u21,u22,u23,u24,u25,u26,u27,u28,u29,u30,u31,u32,u33,u34,u35,u36,u37,u38,u39,u40,u41,u42,u43,u44,u45,u46,u47,u48,u49,u50,u51,u52,u53,u54,u55,u56,u57,u58,u59,u60,u61,u62,u63,u64,u65,u66,u67,u68,u69,u70,u71,u72,u73,u74,u75,u76,u77,u78,u79,u80,u81,u82,u83,u84,u85,u86,u87,u88,u89,u90,u91,u92,u93,u94,u95,u96,u97],defers:=Ds.map markedS }) (fun a _=>n-a.defers.length) ?_ ?_
   ·refine⟨0,wr.heap.size,_,[],by omega,rfl,HI0,?_⟩
    (repeat apply Exists.intro)
    rfl
   rintro a W ⟨k,bq,V,Ds,hk,hds,hI,hinv⟩
   obtain⟨u1,hinv⟩:=hinv
   obtain⟨u2,hinv⟩:=hinv
   obtain⟨u3,hinv⟩:=hinv
   obtain⟨u5,hinv⟩:=hinv
   obtain⟨u7,hinv⟩:=hinv
   obtain⟨u9,hinv⟩:=hinv
   obtain⟨u10,hinv⟩:=hinv
   obtain⟨u11,hinv⟩:=hinv
   obtain⟨u12,hinv⟩:=hinv
   obtain⟨u13,hinv⟩:=hinv
   obtain⟨u14,hinv⟩:=hinv
   obtain⟨u15,hinv⟩:=hinv
   obtain⟨u16,hinv⟩:=hinv
   obtain⟨u17,hinv⟩:=hinv
   obtain⟨u18,hinv⟩:=hinv
   obtain⟨u19,hinv⟩:=hinv
   obtain⟨u20,hinv⟩:=hinv
   obtain⟨u21,hinv⟩:=hinv
   obtain⟨u22,hinv⟩:=hinv
   obtain⟨u23,hinv⟩:=hinv
   obtain⟨u24,hinv⟩:=hinv
   obtain⟨u25,hinv⟩:=hinv
   obtain⟨u26,hinv⟩:=hinv
   obtain⟨u27,hinv⟩:=hinv
   obtain⟨u28,hinv⟩:=hinv
   obtain⟨u29,hinv⟩:=hinv
   obtain⟨u30,hinv⟩:=hinv
   obtain⟨u31,hinv⟩:=hinv
   obtain⟨u32,hinv⟩:=hinv
   obtain⟨u33,hinv⟩:=hinv
   obtain⟨u34,hinv⟩:=hinv
   obtain⟨u35,hinv⟩:=hinv
   obtain⟨u36,hinv⟩:=hinv
   obtain⟨u37,hinv⟩:=hinv
   obtain⟨u38,hinv⟩:=hinv
   obtain⟨u39,hinv⟩:=hinv
   obtain⟨u40,hinv⟩:=hinv
   obtain⟨u41,hinv⟩:=hinv
   obtain⟨u42,hinv⟩:=hinv
   obtain⟨u43,hinv⟩:=hinv
   obtain⟨u44,hinv⟩:=hinv
   obtain⟨u45,hinv⟩:=hinv
   obtain⟨u46,hinv⟩:=hinv
   obtain⟨u47,hinv⟩:=hinv
   obtain⟨u48,hinv⟩:=hinv
   obtain⟨u49,hinv⟩:=hinv
   obtain⟨u50,hinv⟩:=hinv
   obtain⟨u51,hinv⟩:=hinv
   obtain⟨u52,hinv⟩:=hinv
   obtain⟨u53,hinv⟩:=hinv
   obtain⟨u54,hinv⟩:=hinv
   obtain⟨u55,hinv⟩:=hinv
   obtain⟨u56,hinv⟩:=hinv
   obtain⟨u57,hinv⟩:=hinv
   obtain⟨u58,hinv⟩:=hinv
   obtain⟨u59,hinv⟩:=hinv
   obtain⟨u60,hinv⟩:=hinv
   obtain⟨u61,hinv⟩:=hinv
   obtain⟨u62,hinv⟩:=hinv
   obtain⟨u63,hinv⟩:=hinv
   obtain⟨u64,hinv⟩:=hinv
   obtain⟨u65,hinv⟩:=hinv
   obtain⟨u66,hinv⟩:=hinv
   obtain⟨u67,hinv⟩:=hinv
   obtain⟨u68,hinv⟩:=hinv
   obtain⟨u69,hinv⟩:=hinv
   obtain⟨u70,hinv⟩:=hinv
   obtain⟨u71,hinv⟩:=hinv
   obtain⟨u72,hinv⟩:=hinv
   obtain⟨u73,hinv⟩:=hinv
   obtain⟨u74,hinv⟩:=hinv
   obtain⟨u75,hinv⟩:=hinv
   obtain⟨u76,hinv⟩:=hinv
   obtain⟨u77,hinv⟩:=hinv
   obtain⟨u78,hinv⟩:=hinv
   obtain⟨u79,hinv⟩:=hinv
   obtain⟨u80,hinv⟩:=hinv
   obtain⟨u81,hinv⟩:=hinv
   obtain⟨u82,hinv⟩:=hinv
   obtain⟨u83,hinv⟩:=hinv
   obtain⟨u84,hinv⟩:=hinv
   obtain⟨u85,hinv⟩:=hinv
   obtain⟨u86,hinv⟩:=hinv
   obtain⟨u87,hinv⟩:=hinv
   obtain⟨u88,hinv⟩:=hinv
   obtain⟨u89,hinv⟩:=hinv
   obtain⟨u90,hinv⟩:=hinv
   obtain⟨u91,hinv⟩:=hinv
   obtain⟨u92,hinv⟩:=hinv
   obtain⟨u93,hinv⟩:=hinv
   obtain⟨u94,hinv⟩:=hinv
   obtain⟨u95,hinv⟩:=hinv
   obtain⟨u96,hinv⟩:=hinv
   obtain⟨u97,hinv⟩:=hinv
   subst hinv
   by_cases hlt:k<n
   ·have x0:W.cell? ⟨bq,0,none⟩=some (.int .i64 ((k:Int)+1)):=hI.out.bx.cell 0
    have i1:(k:Int)+1≤(n:Int):=by omega
    have HLT:=hid hlt
    obtain⟨ha,hha⟩: ∃ha,ha=1024*(k+1):=⟨_,rfl⟩
    obtain⟨hb,hhb⟩: ∃hb,hb=1024*(k+1)+8:=⟨_,rfl⟩
    obtain⟨cv,hcv⟩: ∃cv,cv=clsAt bs (k+1):=⟨_,rfl⟩
    obtain⟨bv,hbv⟩: ∃bv,bv=bitAt bs (k+1):=⟨_,rfl⟩
    have eh:headerZ ((k:Int)+1)=(ha:Int):=by unfold headerZ;rw[if_pos (by have:=hn.out;omega)];omega
    have eb:bitsZ ((k:Int)+1)=(hb:Int):=by unfold bitsZ;rw[if_pos (by have:=hn.out;omega)];omega
    have CH:=hid (fun W'=>by have:=Header_z ((k:Int)+1) W';rw[eh] at this;exact this: ∀W',Calls Tryz.prog 96 #[.int .i64 ((k:Int)+1)] W' fun e w'=>e= .returned (.int .u64 (ha:Int))∧W'=w')
    have CB:=hid (fun W'=>by have:=Bits_z ((k:Int)+1) W';rw[eb] at this;exact this: ∀W',Calls Tryz.prog 97 #[.int .i64 ((k:Int)+1)] W' fun e w'=>e= .returned (.int .u64 (hb:Int))∧W'=w')
    obtain⟨wv,hwv⟩: ∃wv:Nat→Int,wv=fun a=>leW ((bs.drop a).take 8):=⟨_,rfl⟩
    have CW:Hid (∀a W',(W'.cell? ⟨bq,0,none⟩=some (.int .i64 ((k:Int)+1))∧Below w.heap.size w W')→(a=ha∨a=hb)→Calls Tryz.prog 95 #[.slice p N cap,.int .u64 (a:Int)] W' fun e w'=>e= .returned (.int .u64 (wv a))∧W'=w'):=by
     intro a W' hb' hab
     have hbi:=bytesBel H.out hb'.2
     have hlen:=HN.out
     have:=word_s p cap bs a (by have:=HL.out;have:=hn.out;omega) (by have:=HL.out;have:=hn.out;omega) W' hbi
     rw[←hlen] at this
     rw[hwv];exact this
    have ecv:Hid (wv ha=(cv:Int)):=by
     rw[hwv,hcv,hha];exact(Int.toNat_of_nonneg (leW_bounds (bs:=(bs.drop (1024*(k+1))).take 8) (fun x hx=>H.out.2.1 x (List.mem_of_mem_drop (List.mem_of_mem_take hx)))).1).symm
    have ebv:Hid (wv hb=(bv:Int)):=by
     rw[hwv,hbv,hhb];exact(Int.toNat_of_nonneg (leW_bounds (bs:=(bs.drop (1024*(k+1)+8)).take 8) (fun x hx=>H.out.2.1 x (List.mem_of_mem_drop (List.mem_of_mem_take hx)))).1).symm
    have hbl:bv<18446744073709551616:=by
     have:=leW_bounds (bs:=(bs.drop (1024*(k+1)+8)).take 8) (fun x hx=>H.out.2.1 x (List.mem_of_mem_drop (List.mem_of_mem_take hx)))
     have h2:((bs.drop (1024*(k+1)+8)).take 8).length≤8:=by simp;omega
     have h3:(2:Int)^ (8*((bs.drop (1024*(k+1)+8)).take 8).length)≤2^64:=by
      have h4:=Nat.pow_le_pow_right (n:=2) (by omega) (show 8*((bs.drop (1024*(k+1)+8)).take 8).length≤64 by omega)
      exact_mod_cast h4
     have h5:((2:Int)^64)=18446744073709551616:=by decide
     have:(bv:Int)<18446744073709551616:=by
      rw[hbv];unfold bitAt;rw[Int.toNat_of_nonneg this.1];omega
     omega
    have hbel:=hI.out.bel
    have HCV:=hid hcv
    have HBV:=hid hbv
    have HBL:=hid hbl
    have HI:=hid hI
    have HK:=hid hk
    have HDS:=hid hds
    have zz:W.drew.cell? ⟨bq,0,none⟩=some (.int .i64 ((k:Int)+1)):=x0
    have zl:=hI.out.bx.lt
    have zz2: ∀cs t,(W.drew.alloc (.cells cs t)).cell? ⟨bq,0,none⟩=some (.int .i64 ((k:Int)+1)):=fun cs t=>(hI.out.bx.drew.alloc (.cells cs t)).cell 0
    have K0:Hid (W.drew.cell? ⟨bq,0,none⟩=some (.int .i64 ((k:Int)+1))∧Below w.heap.size w W.drew):=⟨x0,hbel.drew⟩
    have KA:Hid (∀o,(W.alloc o).drew.cell? ⟨bq,0,none⟩=some (.int .i64 ((k:Int)+1))):=fun o=>((World.cell?_of_block (w:=W) (a:=⟨bq,0,none⟩) (Below.heap_alloc W o bq hI.out.bx.lt)).trans x0:(W.alloc o).cell? ⟨bq,0,none⟩=_)
    have KB:Hid (∀o,Below w.heap.size w (W.alloc o).drew):=fun o=>(ba hbel o).drew
    clear hha hhb hcv hbv eh eb hwv hbl hk hds hlt zz2 hbel hI
    gi_wp2_with fail
    refine wpIn_wide.2 ?_
    refine share (X:= ?X) (fun key=> ?_) ?_
    rotate_left
    ·go_region_held3 (fun w'=>w'.cell? ⟨bq,0,none⟩=some (.int .i64 ((k:Int)+1))∧Below w.heap.size w w') (first | exact K0.out | exact⟨KA.out _,KB.out _⟩ | exact KA.out _ | exact KB.out _ | assumption)
      (first
      | (go_at_call 96;refine(CH.out _).mono ?_;rintro e w3 ⟨rfl,rfl⟩)
      | (go_at_call 97;refine(CB.out _).mono ?_;rintro e w3 ⟨rfl,rfl⟩)
      | (go_at_call 95;refine(CW.out _ _ (by assumption) (by first | exact Or.inl rfl | exact Or.inr rfl)).mono ?_;rintro e w3 ⟨rfl,rfl⟩))
     all_goals
      try go_simp
      try simp only[Act.put,List.setIfInBounds_toArray,List.set_cons_zero,List.set_cons_succ]
      exact key.out
    rw[ecv.out,ebv.out]
    clear K0 KA KB CW CH CB zz zl x0
    have hc0:(0:Int)≤(cv:Int):=by omega
    have fin: ∀W3,Hid (Below W.heap.size W W3)→headOK bs (k+1)=false→ ∀W',Only Ds W3 W'→Below w.heap.size w W':=by
     intro W3 hb _ W' ho
     exact(HI.out.bel.trans (hb.out.mono HI.out.bel.size)).trans (ho.below (fun x hx=>(HI.out.ds x hx).2) (Nat.le_trans HI.out.bel.size hb.out.size))
    have FIN:=hid fin
    have DS:Hid (∀W3,Below W.heap.size W W3→ ∀d∈Ds,W3.heap[d]?=some (.deferred (some []))):=fun W3 hb d hd=>by
     have:=(HI.out.ds d hd).1
     exact(hb.block d (Array.getElem?_eq_some_iff.1 this).1).trans this
    clear fin
    by_cases hc3:(cv:Int)>3
    ·have hno:Hid (headOK bs (k+1)=false):=by
      show _=_
      unfold headOK
      rw[←HCV.out,decide_eq_false (by omega)];rfl
     gi_wp2
     refine⟨trivial,?_⟩
     gi_wp2
     refine⟨trivial,?_⟩
     gi_wp2
     have HB3:Hid (Below W.heap.size W (W.alloc (Obj.cells #[Value.int IntKind.u64 ↑cv] 25)).drew):=(ba (Below.refl _ _) _).drew
     exact leaves_marksS Ds _ (DS.out _ HB3.out) HI.out.nd (fun W' ho=>⟨_,by simp[results,Tryz.results59,go_sem],fun hall=>absurd (hall (k+1) (by omega) (by have:=HLT.out;omega)) (by rw[hno.out];decide),fun _=>rfl,FIN.out _ HB3 hno.out W' ho⟩)
    ·have hb0:Below W.heap.size W (W.alloc (Obj.cells #[Value.int IntKind.u64 ↑cv] 25)).drew:=(ba (Below.refl _ _) _).drew
     have hw3:IntKind.i64.wrap (cv:Int)=(cv:Int):=by rw[IntKind.wrap_i64];omega
     gi_wp2_with fail
     refine⟨trivial,(callsIn_wide.2 (Blocks_z (cv:Int) _)).mono ?_⟩
     rintro e W2 ⟨rfl,hb2⟩
     have hb3:=hb0.trans (hb2.mono hb0.size)
     gi_wp2_with fail
     refine⟨trivial,(callsIn_wide.2 (May_z bv (blocksZ (cv:Int)) HBL.out _)).mono ?_⟩
     rintro e W3 ⟨rfl,hb4⟩
     have HB3:=hid (hb3.trans (hb4.mono hb3.size))
     cases hm:mayBits bv (blocksZ (cv:Int))
     ·have hno:Hid (headOK bs (k+1)=false):=by
       show _=_
       unfold headOK
       rw[←HCV.out,←HBV.out,hm,Bool.and_false]
      clear hb0 hb2 hb3 hb4
      gi_wp2
      exact leaves_marksS Ds _ (DS.out _ HB3.out) HI.out.nd (fun W' ho=>⟨_,by simp[results,Tryz.results59,go_sem],fun hall=>absurd (hall (k+1) (by omega) (by have:=HLT.out;omega)) (by rw[hno.out];decide),fun _=>rfl,FIN.out _ HB3 hno.out W' ho⟩)
     ·have hyes:Hid (headOK bs (k+1)=true):=by
       show _=_
       unfold headOK
       rw[←HCV.out,←HBV.out,hm,decide_eq_true (by omega)];rfl
      have hcB:Blk W3 W.heap.size 25 #[.int .u64 (cv:Int)]:=((Blk.new W 25 #[.int .u64 (cv:Int)]).drew.bel hb2).bel hb4
      have hsl:=HI.out.sl.bel HB3.out
      have yC:=hcB.cell 0
      have yB:W3.cell? ⟨bq,0,none⟩=some (.int .i64 ((k:Int)+1)):=(HI.out.bx.bel HB3.out).cell 0
      have yS:W3.cell? ⟨sb,0,none⟩=some (.pointer (some ⟨B.s,0,none⟩)):=(HI.out.bS.bel HB3.out).cell 0
      have hdl:(ofTo bs n k).hd.length=1+n:=ofTo_hd bs n k
      have yH:W3.cell? ⟨B.s,1,none⟩=some (.slice (some ⟨B.h,0,none⟩) q q):=by have:=hsl.ch;rw[hdl,←HQ.out] at this;exact this
      have yF:W3.frozen? ⟨B.h,(k+1)*2+1,none⟩=false:=hsl.hdr.frozen _
      obtain⟨ov,yO⟩: ∃ov,W3.cell? ⟨B.h,(k+1)*2+1,none⟩=some ov:=⟨_,by rw[hsl.hdr.cell,show(k+1)*2+1=2*(k+1)+1 by omega,List.getElem?_toArray];exact(headC_get (ofTo bs n k).hd (k+1) (by rw[hdl];have:=HLT.out;omega)).2⟩
      have hsl4:=hsl.head ((k+1)*2+1) (.int .u64 (bv:Int)) ((ofTo bs n k).hd.set (k+1) (((ofTo bs n k).hd.getD (k+1) (0,0)).1,(bv:Int))) (by simp) (by rw[show(k+1)*2+1=2*(k+1)+1 by omega];exact headC_set1 _ _ _)
      have HSL4:=hid hsl4
      have HHD:=hid hdl
      have HCB:=hid hcB
      have j1:(0:Int)≤(k:Int)+1:=by omega
      have j2:(k:Int)+1< (q:Int):=by have:=HQ.out;have:=HLT.out;omega
      have jn:((k:Int)+1).toNat=k+1:=by omega
      clear hb0 hb2 hb3 hb4 hsl4 hdl hcB hsl
      gi_wp2_with fail
      refine wpIn_wide.2 ?_
      refine share (X:= ?X2) (fun key=> ?_) ?_
      rotate_left
      ·go_region
       all_goals
        try go_simp
        try simp only[Act.put,List.setIfInBounds_toArray,List.set_cons_zero,List.set_cons_succ]
        exact key.out
      have hB3:Boxes w sb bq W.heap.size k cv B V Ds W3:=by
       have hr: ∀x,x∈foot B V→x<W.heap.size:=fun x hx=>by obtain⟨i,hi⟩:=foot_mem.1 hx;exact HI.out.sl.lt hi
       refine⟨HI.out.bel.trans (HB3.out.mono HI.out.bel.size),HI.out.bx.bel HB3.out,HI.out.bS.bel HB3.out,HCB.out,⟨HI.out.bqlo,HI.out.slo,HI.out.bel.size⟩,
        ⟨fun hm=> ?_,fun hm=> ?_,fun hm=> ?_⟩,HI.out.ne,fun d hd=>⟨DS.out _ HB3.out d hd,(HI.out.ds d hd).2⟩,fun d hd hm=> ?_,HI.out.nd⟩
       ·obtain⟨i,hi⟩:=foot_mem.1 hm;exact HI.out.bqf i hi
       ·obtain⟨i,hi⟩:=foot_mem.1 hm;exact HI.out.sf i hi
       ·have:=hr _ hm;omega
       ·obtain⟨i,hi⟩:=foot_mem.1 hm;exact HI.out.dsf i d hi hd
      have hbh:B.h∈foot B V:=foot_mem.2 ⟨1,rfl⟩
      have hB4:Boxes w sb bq W.heap.size k cv B V Ds (W3.setCell ⟨B.h,(k+1)*2+1,none⟩ (.int .u64 (bv:Int))):=
       hB3.moved (HI.out.sl.bel HB3.out) ⟨HSL4.out.2.mono (fun x hx=>by obtain rfl:=List.mem_singleton.1 hx;exact hbh),fun _ h=>Or.inl h⟩
      obtain⟨W4,hW4⟩: ∃W4,W4=(W3.setCell ⟨B.h,(k+1)*2+1,none⟩ (Value.int IntKind.u64 ↑bv)).drew:=⟨_,rfl⟩
      have HS4:Hid (SlabIs W4 w.heap.size B V (N:Int) (hdSA (ofTo bs n k) (k+1) bv)):=by rw[hW4];exact HSL4.out.1.bel (belDrew _)
      have HBo4:Hid (Boxes w sb bq W.heap.size k cv B V Ds W4):=by rw[hW4];exact hB4.below (belDrew _)
      rw[←hW4]
      clear hW4 hB3 hB4 hbh HSL4 HCB yC yB yS yH yF yO
      have yC:W4.cell? ⟨W.heap.size,0,none⟩=some (.int .u64 (cv:Int)):=HBo4.out.bC.cell 0
      have yB:W4.cell? ⟨bq,0,none⟩=some (.int .i64 ((k:Int)+1)):=HBo4.out.bx.cell 0
      have yS:W4.cell? ⟨sb,0,none⟩=some (.pointer (some ⟨B.s,0,none⟩)):=HBo4.out.bS.cell 0
      have hG:=give_z w.heap.size B V (N:Int) (hdSA (ofTo bs n k) (k+1) bv) (k+1) cv W4 HS4.out HBo4.out.bel.size (by have:=HLT.out;have:=hn.out;omega) (by show _< ((ofTo bs n k).hd.set _ _).length;rw[List.length_set,HHD.out];have:=HLT.out;omega) (by omega) (Nat.le_trans (ofTo_len bs n k cv) (by have:=HK.out;have:=hn.out;omega)) (by show((ofTo bs n k).hd.set _ _).length≤_;rw[List.length_set,HHD.out];have:=hn.out;omega)
      rw[show(((k+1:Nat)):Int)=(k:Int)+1 by omega] at hG
      have HG:=hid hG
      clear hG
      gi_wp2_with fail
      refine⟨trivial,(callsIn_wide.2 HG.out).mono ?_⟩
      rintro e W5 ⟨⟨r,rfl⟩,V5,hs5,hm5⟩
      have HS5:=hid hs5
      have HBo5:=hid (HBo4.out.moved HS4.out hm5)
      clear hs5 hm5 yC yB yS HG
      gi_wp2_with fail
      refine⟨trivial,(Bits_make _ _ _).mono ?_⟩
      rintro e W6 ⟨rfl,rfl⟩
      gi_wp2_with fail
      obtain⟨A5,hA5⟩: ∃A5,A5=giveSA (hdSA (ofTo bs n k) (k+1) bv) (k+1) cv:=⟨_,rfl⟩
      have hl5:(A5.fr cv).length≤100000:=by
       rw[hA5]
       have h1:=giveTo_len (hdSA (ofTo bs n k) (k+1) bv) (k+1) cv (nb cv) cv
       have h2:=ofTo_len bs n k cv
       have h3:=nb_le cv
       have h4:=HK.out
       have h5:=hn.out
       show((giveTo _ _ _ _).fr cv).length≤_
       have h6:((hdSA (ofTo bs n k) (k+1) bv).fr cv).length=((ofTo bs n k).fr cv).length:=rfl
       omega
      have HA5:=hid hA5
      have HL5:=hid hl5
      have hs5:=HS5.out
      rw[←hA5] at hs5
      obtain⟨W6,hW6⟩: ∃W6,W6=W5.alloc (Obj.cells #[Value.int IntKind.u64 ↑bv] 25):=⟨_,rfl⟩
      have hz6:W6.heap.size=W5.heap.size+1:=by rw[hW6];simp
      have hb56:Below W5.heap.size W5 W6:=by rw[hW6];exact ba (Below.refl _ _) _
      have hs6:W6.cell? ⟨W5.heap.size,0,none⟩=some (.int .u64 (bv:Int)):=by rw[hW6];exact(Blk.new W5 25 #[.int .u64 (bv:Int)]).cell 0
      have hr5: ∀i x,role B V5 i=some x→x<W5.heap.size:=fun i x hi=>hs5.lt hi
      have HI6:BitI w W6.heap.size sb bq W.heap.size k cv B V5 Ds (N:Int) A5 [] W6:=⟨Nat.le_refl _,⟨V5,hs5.bel hb56,fun _=>rfl⟩,HBo5.out.below hb56⟩
      have hbnds:w.heap.size≤W6.heap.size∧bq<W6.heap.size∧sb<W6.heap.size∧W.heap.size<W6.heap.size:=⟨HI6.bo.bel.size,HI6.bo.bx.lt,HI6.bo.bS.lt,HI6.bo.bC.lt⟩
      have hdsz: ∀d∈Ds,d<W6.heap.size:=fun d hd=>(Array.getElem?_eq_some_iff.1 (HI6.bo.ds d hd).1).1
      have hfoot: ∀x∈foot B V5,x<W5.heap.size:=fun x hx=>by obtain⟨i,hi⟩:=foot_mem.1 hx;exact hr5 i x hi
      have HZ6:=hid hz6
      have HR5:=hid hr5
      have HBN:=hid hbnds
      have HDZ:=hid hdsz
      have HFO:=hid hfoot
      rw[←hW6]
      clear hW6 hb56 hs5 hA5 hl5 hz6 HS5 HBo5 HS4 HBo4 hr5 hbnds hdsz hfoot
      refine wpIn_rangeFunc_ownG rfl (by omega) (gf:=139) (lb:= #[.pointer (some ⟨W5.heap.size,0,none⟩)]) rfl trivial (enters_of Tryz.func139 (by kernel_rfl) rfl)
       (Bits_stops 7 bv HBL.out (foot B V5) (W5.heap.size+1) W5.heap.size W6 (by omega) (fun hm=>by have:=HFO.out _ hm;omega) (by rw[HZ6.out];exact Nat.le_refl _) hs6) KeepN.trans ?hKb (Below.refl _ _) (fun _=>rfl)
       (BitI w W6.heap.size sb bq W.heap.size k cv B V5 Ds (N:Int) A5) (fun _ _ _=>False) ?hI ?hX HI6
       (fun x=>{ tmps:= #[Value.slice p N cap,u1,u2,u3,Value.int IntKind.i64 ↑n,u5,Value.pointer (some { block:=sb,off:=0 }),u7,Value.pointer (some { block:=bq,off:=0 }),Value.pointer (some { block:=W.heap.size,off:=0 }),Value.int IntKind.u64 ↑bv,Value.int IntKind.i64 (x.val:Int),u12,u13,u14,u15,u16,u17,u18,u19,u20,u21,u22,u23,u24,u25,u26,u27,u28,u29,u30,u31,u32,u33,u34,u35,u36,u37,u38,Value.int IntKind.i64 (↑k+1),Value.int IntKind.i64 ↑n,Value.bool true,u42,u43,Value.slice p N cap,Value.int IntKind.i64 (↑k+1),Value.int IntKind.u64 ↑ha,Value.int IntKind.u64 ↑cv,Value.slice p N cap,Value.int IntKind.i64 (↑k+1),Value.int IntKind.u64 ↑hb,Value.int IntKind.u64 ↑bv,Value.int IntKind.u64 ↑cv,Value.bool false,Value.bool false,Value.int IntKind.u64 ↑bv,Value.int IntKind.u64 ↑cv,Value.int IntKind.i64 ↑cv,Value.int IntKind.i64 (blocksZ ↑cv),Value.bool true,Value.bool false,Value.bool false,Value.pointer (some { block:=B.s,off:=0 }),Value.pointer (some { block:=B.s,off:=0 }),Value.pointer (some { block:=B.s,off:=1 }),Value.slice (some { block:=B.h,off:=0 }) q q,Value.int IntKind.i64 (↑k+1),Value.int IntKind.u64 ↑bv,Value.pointer (some { block:=B.h,off:=(k+1)*2 }),Value.pointer (some { block:=B.h,off:=(k+1)*2+1 }),Value.pointer (some { block:=B.s,off:=0 }),Value.int IntKind.i64 (↑k+1),Value.int IntKind.u64 ↑cv,Value.int IntKind.i64 ↑cv,r,Value.int IntKind.u64 ↑bv,Value.func (Fn.func 139) #[] #[Value.pointer (some { block:=W5.heap.size,off:=0 })],Value.int IntKind.i64 (x.val:Int),u78,u79,u80,u81,u82,u83,u84,u85,u86,u87,u88,u89,u90,u91,u92,u93,u94,u95,u96,u97],defers:=[] }) ?assign ?body ?done ?stop
      case hKb=>
       intro W' l o o' hl ho hc hw
       exact KeepN.putObj (KeepN.refl _ _ _) (by rw[HZ6.out] at hl;exact hl) _
      case hI=>
       intro s A W' row h hg hr
       exact h.grown hg HBN.out HDZ.out (fun i x hi=>by have:=HR5.out i x hi;rw[HZ6.out];omega) (fun r e=>(hr r e).1)
      case hX=>
       intro c s A W' row h hg hr
       exact h
      case assign=>
       intro l x W' K hK
       gi_wp2
       exact hK
      case body=>
       rintro l pre x W7 hI7 hlt7
       obtain⟨V7,hs7,hr7⟩:=hI7.sl
       have yC:W7.cell? ⟨W.heap.size,0,none⟩=some (.int .u64 (cv:Int)):=hI7.bo.bC.cell 0
       have yB:W7.cell? ⟨bq,0,none⟩=some (.int .i64 ((k:Int)+1)):=hI7.bo.bx.cell 0
       have hf7:foot B V7=foot B V5:=foot_of_role hr7
       have DROP:Hid (∀W8,Below W7.heap.size W7 W8→Calls Tryz.prog 103 #[.pointer (some ⟨B.f cv,0,none⟩),.int .u64 (blockZ ((k:Int)+1) (cv:Int) (x.val:Int))] W8 fun e W9=>(∃r,e= .returned r)∧ ∃V9,Hid (SlabIs W9 w.heap.size B V9 (N:Int) { bitsSA A5 (k+1) cv pre with fr:=updN (bitsSA A5 (k+1) cv pre).fr cv (dropA ((bitsSA A5 (k+1) cv pre).fr cv) (blockZ ((k:Int)+1) (cv:Int) (x.val:Int))) }∧(∀i,role B V9 i=role B V5 i)∧Only (foot B V5) W7 W9)):=by
        intro W8 hb
        have hs8:=hs7.bel hb
        have hc4:cv<4:=by omega
        refine(FDrop_z (B.f cv) (V7 cv) _ (blockZ ((k:Int)+1) (cv:Int) (x.val:Int)) (Nat.le_trans (bitsSA_len A5 (k+1) cv pre cv) HL5.out) W8 (hs8.fre cv hc4)).mono ?_
        rintro e W9 ⟨rfl,v',h1,h2,h3⟩
        obtain⟨g1,g2,_⟩:=hs8.free (Nat.le_trans hI7.bo.bel.size hb.size) hc4 h1 h2 (Or.inl h3)
        refine⟨⟨_,rfl⟩,_,g1,fun i=>(role_upd h3 i).trans (hr7 i),?_⟩
        rw[hf7] at g2
        exact(Only.of_below hb _).trans g2 (fun y hy=>Or.inl hy)
       have HI7:=hid hI7
       have HS7:=hid hs7
       have HF7:=hid hf7
       clear hs7 hr7 hI7 hlt7 hf7
       gi_wp2_with fail
       refine⟨trivial,(CallsIn.inRound l (callsIn_wide.2 (Block_z ((k:Int)+1) (cv:Int) (x.val:Int) W7))).mono ?_⟩
       rintro e W8 ⟨rfl,hb8⟩
       have yC8:W8.drew.cell? ⟨W.heap.size,0,none⟩=some (.int .u64 (cv:Int)):=(HI7.out.bo.bC.bel hb8).cell 0
       have yS8:W8.drew.cell? ⟨sb,0,none⟩=some (.pointer (some ⟨B.s,0,none⟩)):=(HI7.out.bo.bS.bel hb8).cell 0
       have yF8:W8.drew.cell? ⟨B.s,2+cv,none⟩=some (.pointer (some ⟨B.f cv,0,none⟩)):=(HS7.out.bel hb8).cf (by omega)
       have cz:(cv:Int)<4:=by omega
       have HB8:=hid (hb8.drew)
       clear hb8 yC yB
       gi_wp2_with fail
       gi_region_with (first
        | (refine⟨trivial,?_⟩;gi_at_call 103;(with_reducible refine(CallsIn.inRound l (callsIn_wide.2 (DROP.out _ HB8.out))).mono ?_);rintro e W9 ⟨⟨r9,rfl⟩,V9,h9⟩))
       all_goals
        try go_simp
        try simp only[Act.put,List.setIfInBounds_toArray,List.set_cons_zero,List.set_cons_succ]
        obtain⟨W10,hrun,hs10,ho10⟩:=h9.out.1.put (blockZ ((k:Int)+1) (cv:Int) (x.val:Int)) 2
        have hO10:Only (foot B V5) W7 W10:=h9.out.2.2.trans ho10 (fun y hy=>Or.inl (by obtain rfl:=List.mem_singleton.1 hy;exact foot_mem.2 ⟨2,role_m B V5⟩))
        have yS9:W9.cell? ⟨sb,0,none⟩=some (.pointer (some ⟨B.s,0,none⟩)):=(h9.out.2.2.blk HI7.out.bo.bS HI7.out.bo.nf.2.1).cell 0
        have yM9:W9.cell? ⟨B.s,6,none⟩=some (.map (some B.m)):=h9.out.1.cm
        have ek:(((k+1:Nat)):Int)=(k:Int)+1:=by omega
        have hB10:BitI w W6.heap.size sb bq W.heap.size k cv B V5 Ds (N:Int) A5 (pre++[x]) W10:=by
         refine⟨Nat.le_trans HI7.out.sz hO10.size,⟨V9,?_,h9.out.2.1⟩,HI7.out.bo.only hO10 (fun x hx=> ?_) HI7.out.bo.nf HI7.out.bo.dsf (fun _ h=>Or.inl h)⟩
         ·rw[bitsSA_snoc]
          unfold useSA
          rw[ek]
          exact hs10
         ·obtain⟨i,hi⟩:=foot_mem.1 hx
          exact h9.out.1.lo i x ((h9.out.2.1 i).trans hi)
        have hKF:KeepsFrom W6.heap.size W7 W10:=⟨hO10.size,fun i o hB hi ho=>(hO10.block i (Array.getElem?_eq_some_iff.1 hi).1 (fun hm=>by have:=HFO.out i hm;have:=HZ6.out;omega)).trans hi⟩
        have hKN:KeepN (foot B V5) (W5.heap.size+1) W7 W10:=KeepN.only hO10 (by have:=HI7.out.sz;have:=HZ6.out;omega)
        have HFIN:=hid (⟨hKF,hKN,hB10⟩:_∧_∧_)
        clear hs10 ho10 hO10 hB10 hKF hKN ek
        gi_wp2
        exact HFIN.out
      case stop=>exact fun _ _ _ _ _ _ h=>h.elim
      case done=>
       rintro D xs W8 hD rfl hI8 hK8
       obtain⟨V8,hs8,hr8⟩:=hI8.sl
       have yB8:W8.cell? ⟨bq,0,none⟩=some (.int .i64 ((k:Int)+1)):=hI8.bo.bx.cell 0
       have hf8:foot B V8=foot B V5:=foot_of_role hr8
       have hr8': ∀i y,role B V8 i=some y→y<W8.heap.size:=fun i y hi=>hs8.lt hi
       have hnext: ∀W9,W9=W8.alloc (.cells #[.int .i64 ((k:Int)+1+1)] 3)→SOfI w sb n bs (N:Int) (k+1) W8.heap.size B V8 (D::Ds) W9:=by
        rintro W9 rfl
        have hb:Below W8.heap.size W8 (W8.alloc (.cells #[.int .i64 ((k:Int)+1+1)] 3)):=ba (Below.refl _ _) _
        have hDl:D<W8.heap.size:=(Array.getElem?_eq_some_iff.1 hK8).1
        refine⟨?_,fun i h1 h2=> ?_,?_,?_,hI8.bo.bel.size,fun i hi=> ?_,?_,HI.out.slo,fun i hi=> ?_,?_,fun d hd=> ?_,fun i y hi hm=> ?_,?_⟩
        ·have:ofTo bs n (k+1)=bitsSA A5 (k+1) cv (setBits bv):=by
          show oneSA (ofTo bs n k) (k+1) (clsAt bs (k+1)) (bitAt bs (k+1))=_
          rw[←HCV.out,←HBV.out,HA5.out];rfl
         rw[this]
         exact hs8.bel hb
        ·by_cases e:i=k+1
         ·rw[e];exact hyes.out
         ·exact HI.out.ok i h1 (by omega)
        ·exact(hI8.bo.below hb).bel
        ·have:=Blk.new W8 3 #[.int .i64 ((k:Int)+1+1)]
         rw[show((((k+1:Nat)):Int)+1)=(k:Int)+1+1 by omega]
         exact this
        ·have:=hr8' i _ hi;omega
        ·exact hI8.bo.bS.bel hb
        ·exact hI8.bo.nf.2.1 (by rw[←hf8];exact foot_mem.2 ⟨i,hi⟩)
        ·have:=hI8.bo.bS.lt;omega
        ·rcases List.mem_cons.1 hd with rfl | hd
         ·exact⟨(Below.heap_alloc W8 _ _ hDl).trans hK8,by have:=HBN.out.1;omega⟩
         ·exact(hI8.bo.below hb).ds d hd
        ·have h5:=HR5.out i y ((hr8 i).symm.trans hi)
         rcases List.mem_cons.1 hm with rfl | hm
         ·have:=HZ6.out;omega
         ·exact hI8.bo.dsf y hm (foot_mem.2 ⟨i,(hr8 i).symm.trans hi⟩)
        ·exact List.nodup_cons.2 ⟨fun hm=>by have:=HDZ.out D hm;omega,HI.out.nd⟩
       have HNX:=hid hnext
       have hKd:Hid (W8.heap[D]?=some (.deferred (some []))):=hK8
       clear hs8 hr8 hI8 hf8 hr8' hnext hK8
       gi_wp2
       refine⟨⟨k+1,W8.heap.size,V8,D::Ds,HLT.out,by simp[HDS.out],HNX.out _ rfl,?_⟩,?_⟩
       ·(repeat apply Exists.intro)
        rfl
       ·have h1:=HDS.out
        have h2:=HLT.out
        simp only[List.length_cons,List.length_map]
        omega
   ·have hkn:k=n:=by omega
    have x0:W.cell? ⟨bq,0,none⟩=some (.int .i64 ((k:Int)+1)):=hI.out.bx.cell 0
    have x1:W.cell? ⟨sb,0,none⟩=some (.pointer (some ⟨B.s,0,none⟩)):=hI.out.bS.cell 0
    have i1: ¬((k:Int)+1≤(n:Int)):=by omega
    have HKN:=hid hkn
    clear hkn hk hlt
    gi_wp2
    refine leaves_marksS Ds W (fun d hd=>(hI.out.ds d hd).1) hI.out.nd (fun W' ho=> ?_)
    refine⟨.tuple #[.pointer (some ⟨B.s,0,none⟩),.int .i64 0],by simp[results,Tryz.results59,go_sem],?_⟩
    refine⟨fun _=>⟨B,V,rfl,?_⟩,fun h=> ?_,?_⟩
    ·have:=hI.out.sl.only ho (fun i k hk=>hI.out.dsf i k hk)
     rw[HKN.out] at this
     exact this
    ·obtain⟨i,h1,h2,h3⟩:=h
     exact absurd (hI.out.ok i h1 (by rw[HKN.out];exact h2)) (by rw[h3];decide)
    ·exact hI.out.bel.trans (ho.below (fun x hx=>(hI.out.ds x hx).2) hI.out.bel.size)
end Go.Proofs.YtjmaicckkkdjpaaGreat
