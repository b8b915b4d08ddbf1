/- Look's closure: the code's Look$1, walked. -/
import Derived.Test.YtibiekfjbibpbaaGreatRepM
set_option maxRecDepth 100000
set_option maxHeartbeats 1000000
set_option linter.unusedVariables false
set_option linter.unusedSimpArgs false
namespace Go.Proofs.YtibiekfjbibpbaaGreat
open Go.RowKit
section
attribute [local go_sem ↓ high] append_shut2
attribute [local go_sem] Oper.semAt_some appM2_run
theorem repBuild (ps:Array (Nat×Value)):Instr.build 32 ps=bldM 32 ps:=rfl
theorem repStoreAt (p v:Value):Instr.storeAt 32 p v=stM 32 p v:=rfl
attribute [local go_sem ↓ high] repBuild repStoreAt
attribute [local go_sem] bldM_run stM_run
theorem keysOf: ∀(es:List MapEntry) (R:List Int),es.map pairE=R.map isU→ ∃ks:List KeyA,ks.map keyE=es∧ks.map (·.adr)=R
 | [],[],_=>⟨[],rfl,rfl⟩
 | [],_::_,h=>by simp at h
 | _::_,[],h=>by simp at h
 | e::es,a::R,h=>by
  simp only[List.map_cons,List.cons.injEq] at h
  obtain⟨ks,h1,h2⟩:=keysOf es R h.2
  refine⟨⟨a,e.born⟩::ks,?_,by rw[List.map_cons,h2]⟩
  rw[List.map_cons,h1]
  have h3:(e.key,e.val)=(Value.int .u64 a,Value.agg #[]):=h.1
  injection h3 with h3 h4
  cases e
  simp only at h3 h4
  subst h3 h4
  rfl
theorem SetIs.keys {w:World} {mb:Nat} {R:List Int} (h:SetIs w mb R): ∃(ks:List KeyA) (ck:Nat),w.heap[mb]?=some (.map (ks.map keyE).toArray ck)∧ks.map (·.adr)=R∧(ks.Pairwise fun a b=>a.born≠b.born)∧ ∀L∈ks,L.born<ck:=by
 obtain⟨es,cl,h1,h2,h3,h4⟩:=h
 obtain⟨ks,e1,e2⟩:=keysOf _ _ h2
 have e3:es=(ks.map keyE).toArray:=by rw[e1]
 have e4:ks.map (·.born)=es.toList.map (·.born):=by rw[←e1,List.map_map];rfl
 refine⟨ks,cl,by rw[←e3];exact h1,e2,?_,fun L hL=>h4 _ (by rw[←e4];exact List.mem_map_of_mem hL)⟩
 rw[←e4] at h3
 exact List.pairwise_map.1 h3
def LokOK (bs:List Int) (rb:Nat) (w w':World):Prop:=
 ∃rs ps leaves R W1 B pv rv fv kv,WholeOK bs rs ps∧rs.getLast?=some leaves∧R.Perm (allA rs++(allE leaves).map (·.2))∧R.Pairwise (· ≤ ·)∧Below w.heap.size w W1∧PrsAt W1 w.heap.size B pv ps∧
  LokI W1 rb pv rv fv kv (rs.length-1:Int) (nodesI rs) R (R.filter fun a=> !usedB bs a) (leaksI bs R) w'
def LokBad (bs:List Int) (w w':World):Prop:=(∀rs ps,¬WholeOK bs rs ps)∧Below w.heap.size w w'
def sumTo (rs:List (List (Int×NodeA))) (i:Nat):Int:=(((rs.take i).map List.length).sum:Nat)
theorem sumTo_all (rs:List (List (Int×NodeA))):sumTo rs rs.length=nodesI rs:=by unfold sumTo nodesI;rw[List.take_length]
theorem sumTo_succ {rs:List (List (Int×NodeA))} {i:Nat} {row:List (Int×NodeA)} (h:rs[i]?=some row):sumTo rs (i+1)=sumTo rs i+row.length:=by
 unfold sumTo
 rw[List.take_add_one,h]
 simp
theorem sumTo_le {rs:List (List (Int×NodeA))} {m:Nat} (h: ∀row∈rs,row.length≤m): ∀i,i≤rs.length→0≤sumTo rs i∧sumTo rs i≤i*m
 | 0,_=>by unfold sumTo;simp
 | i+1,hi=>by
  have hx:rs[i]?=some rs[i]:=List.getElem?_eq_getElem (by omega)
  have h1:=sumTo_le h i (by omega)
  have h2:=h _ (List.mem_of_getElem? hx)
  rw[sumTo_succ hx]
  have h3:((i+1:Nat):Int)*(m:Int)=(i:Int)*m+m:=by rw[Int.natCast_add];simp[Int.add_mul]
  rw[h3]
  omega
theorem cellsLok {W1 v W3:World} {N0 xb lb g m cp mb pn pc rb:Nat} {pa:Option Addr} (h: ∀W',Below W1.heap.size W1 W'→W'.cell? ⟨xb,0,none⟩=some (.pointer (some ⟨lb,0,none⟩))∧W'.cell? ⟨lb,5,none⟩=some (.slice pa pn pc)∧W'.cell? ⟨lb,3,none⟩=some (.map (some mb))∧W'.cell? ⟨lb,4,none⟩=some (.slice (some ⟨g,0,none⟩) m cp))
  (hb:Below W1.heap.size W1 v) (ho:Only [rb] v W3) (hlt:xb<W1.heap.size∧lb<W1.heap.size∧xb≠rb∧lb≠rb∧rb<W1.heap.size∧rb<N0):
  W3.cell? ⟨xb,0,none⟩=some (.pointer (some ⟨lb,0,none⟩))∧W3.cell? ⟨lb,5,none⟩=some (.slice pa pn pc)∧W3.cell? ⟨lb,3,none⟩=some (.map (some mb))∧W3.cell? ⟨lb,4,none⟩=some (.slice (some ⟨g,0,none⟩) m cp):=by
 obtain⟨h1,h2,h3,h4⟩:=h v hb
 have hx:xb<v.heap.size:=Nat.lt_of_lt_of_le hlt.1 hb.size
 have hl:lb<v.heap.size:=Nat.lt_of_lt_of_le hlt.2.1 hb.size
 have nx:xb∉ [rb]:=by simpa using hlt.2.2.1
 have nl:lb∉ [rb]:=by simpa using hlt.2.2.2.1
 exact⟨(ho.cell (p:=⟨xb,0,none⟩) hx nx).trans h1,(ho.cell (p:=⟨lb,5,none⟩) hl nl).trans h2,(ho.cell (p:=⟨lb,3,none⟩) hl nl).trans h3,(ho.cell (p:=⟨lb,4,none⟩) hl nl).trans h4⟩
theorem Look1_in (ib rb b off cap n:Nat) (bs:List Int) (hn:n=bs.length) (hcap:cap≤9223372036854775807) (hs:0<slabsZ bs.length) (w:World) (h:BytesIn w (some ⟨b,off,none⟩) cap bs)
  (hi:w.cell? ⟨ib,0,none⟩=some (.slice (some ⟨b,off,none⟩) n cap)) (hr:Blk w rb 32 #[.slice none 0 0,.slice none 0 0,.slice none 0 0,.slice none 0 0,.int .i64 0,.int .i64 0]):
  CallsIn Fence.wide 6 Tryz.prog 65 #[.pointer (some ⟨ib,0,none⟩),.pointer (some ⟨rb,0,none⟩)] w (CatQ (LokOK bs rb w) (LokBad bs w)):=by
 have WH:=hid (Whole_z b off cap bs n hn hcap hs w h)
 have HR:=hid hr
 have HBY:=hid h.2.1
 have HS:=hid hs
 clear hn hs h hr
 refine callsIn_of_wp_marks Tryz.func65 rfl trivial ?_ rfl
 simp only[Tryz.ntmps65,List.size_toArray,List.length_cons,List.length_nil,Nat.reduceAdd,Nat.reduceSub,Array.replicate_succ,Array.replicate_zero,List.push_toArray,List.append_toArray,List.nil_append,List.cons_append]
 gi_wp2_with fail
 refine⟨trivial,(callsIn_wide.2 WH.out).mono ?_⟩
 rintro e w1 ⟨hb1,(⟨rs,ps,B,lv,pr,hok,rfl,⟨leaves,hlf,hL⟩,hV,hP⟩ | ⟨hno,rfl⟩)⟩
 rotate_left
 ·exact Or.inr ⟨rfl,hno,hb1⟩
 obtain⟨g,cp,rfl,hcp,hgl,hrd⟩:=hV.ld (by intro e;rw[e] at hlf;cases hlf)
 obtain⟨pa,pc,rfl⟩:=row_form1 hP.own
 obtain⟨m,hm⟩: ∃m,m=rs.length:=⟨_,rfl⟩
 rw[←hm] at hL hV hcp
 obtain⟨pn,hpn⟩: ∃pn,pn=ps.length:=⟨_,rfl⟩
 rw[←hpn] at hL hP
 obtain⟨W1,hW1⟩: ∃W1,W1=w1.alloc (.cells #[.pointer (some ⟨B.lb,0,none⟩)] 136):=⟨_,rfl⟩
 have hb2:Below w1.heap.size w1 W1:=by rw[hW1];exact ba (Below.refl _ _) _
 obtain⟨xb,hxb⟩: ∃xb,xb=w1.heap.size:=⟨_,rfl⟩
 have kx:Blk W1 xb 136 #[.pointer (some ⟨B.lb,0,none⟩)]:=by rw[hW1,hxb];exact Blk.new _ _ _
 have hL1:=hL.bel hb2
 have hP1:PrsAt W1 w.heap.size B (.slice pa pn pc) ps:=⟨(Only.of_below hb2 []).own hP.own (by simp),hP.apart⟩
 have hV1:=hV.only (Only.of_below hb2 []) (by simp)
 have hR1:=HR.out.bel (bx hb1 hb2)
 have HX:=hid (⟨hok,hlf,hm,hpn,hcp,hxb,hb1.size⟩:_∧_∧_∧_∧_∧_∧_)
 have HW:=hid (⟨hL1,hP1,hV1,kx,hR1,bx hb1 hb2⟩:_∧_∧_∧_∧_∧_)
 have HCL:Hid (∀W',Below W1.heap.size W1 W'→W'.cell? ⟨xb,0,none⟩=some (.pointer (some ⟨B.lb,0,none⟩))∧W'.cell? ⟨B.lb,5,none⟩=some (.slice pa pn pc)∧W'.cell? ⟨B.lb,3,none⟩=some (.map (some B.mb))∧W'.cell? ⟨B.lb,4,none⟩=some (.slice (some ⟨g,0,none⟩) m cp)):=fun W' hb=>
  ⟨(kx.bel hb).cell 0,(hL1.bel hb).cells.cell 5,(hL1.bel hb).cells.cell 3,(hL1.bel hb).cells.cell 4⟩
 obtain⟨ks,ck,km,kr,kb,ko⟩:=hL1.set.keys
 have hfew:=whole_few HBY.out HS.out hok hlf
 have hkl:ks.length≤1000000:=by
  have h4:=hfew.2.2.2
  rw[←kr,List.length_map] at h4
  omega
 have SRT:Hid (∀W bm,Below W1.heap.size W1 W→W.cell? ⟨bm,0,none⟩=some (.map (some B.mb))→Calls Tryz.prog 67 #[.func (.func 156) #[] #[.pointer (some ⟨bm,0,none⟩)]] W fun e W'=> ∃v ys,e= .returned v∧RiseR W ks v ys W'∧ys.Pairwise (· ≤ ·)):=fun W bm hb hc=>
  Sorted_z bm B.mb ck ks W ((hb.block _ (Array.getElem?_eq_some_iff.1 km).1).trans km) kb ko hc hkl
 have HKS:=hid (⟨km,kr,kb,ko⟩:_∧_∧_∧_)
 have hbld: ∀(W:World) (a:Option Addr) (k c:Nat),bldR Tryz.prog 32 #[(0,.slice pa pn pc),(1,.slice a k c),(4,.int .i64 ((m:Int)-1))] W= .ok (.agg #[.slice pa pn pc,.slice a k c,.slice none 0 0,.slice none 0 0,.int .i64 ((m:Int)-1),.int .i64 0]) W:=fun W a k c=>by kernel_rfl
 have hm16:m≤16:=by rw[hm];exact hfew.2.1
 have hm1:1≤m:=by rw[hm];exact hfew.1
 have HFEW:=hid hfew
 have dk:IntKind.i64.wrap ((m:Int)-1)=(m:Int)-1:=by rw[IntWalk.i64_in _ (by omega)]
 clear hfew hok hlf hm hpn hcp hgl hrd hL hV hP hL1 hP1 hV1 hR1 km kr kb ko hkl hb1 hb2 kx
 gi_wp2_with fail
 rw[←hxb,←hW1]
 clear hW1 hxb
 have HLT:Hid (xb<W1.heap.size∧B.lb<W1.heap.size∧xb≠rb∧B.lb≠rb∧rb<W1.heap.size∧rb<w.heap.size):=by
  have h1:=HW.out.1.cells.lt
  have h2:=HW.out.2.2.2.1.lt
  have h3:=HR.out.lt
  have h4:=HW.out.2.2.2.2.1.lt
  have h5:=HW.out.1.ge
  have h6:=HX.out.2.2.2.2.2.2
  have h7:=HX.out.2.2.2.2.2.1
  refine⟨h2,h1,by omega,by omega,h4,h3⟩
 obtain⟨z0,z5,z3,z4⟩:=HCL.out W1 (Below.refl _ _)
 have z0d:W1.drew.cell? ⟨xb,0,none⟩=some (.pointer (some ⟨B.lb,0,none⟩)):=z0
 have z5d:W1.drew.cell? ⟨B.lb,5,none⟩=some (.slice pa pn pc):=z5
 have z3d:W1.drew.cell? ⟨B.lb,3,none⟩=some (.map (some B.mb)):=z3
 have z4d:W1.drew.cell? ⟨B.lb,4,none⟩=some (.slice (some ⟨g,0,none⟩) m cp):=z4
 refine wpIn_wide.2 ?_
 go_region_held3 (fun w'=>w'.cell? ⟨xb,0,none⟩=some (.pointer (some ⟨B.lb,0,none⟩))∧w'.cell? ⟨B.lb,5,none⟩=some (.slice pa pn pc)∧w'.cell? ⟨B.lb,3,none⟩=some (.map (some B.mb))∧w'.cell? ⟨B.lb,4,none⟩=some (.slice (some ⟨g,0,none⟩) m cp))
  (first | (with_reducible exact⟨q0,q5,q3,q4⟩) | (with_reducible exact⟨y0,y5,y3,y4⟩) | (with_reducible exact⟨x0,x5,x3,x4⟩) | (with_reducible exact⟨z0d,z5d,z3d,z4d⟩) | (with_reducible exact⟨z0,z5,z3,z4⟩))
  (first
   | (go_at_call 68;(with_reducible refine(callsIn_wide.1 (Keys_make 6 B.mb _)).mono ?_);rintro e v1 ⟨rfl,hv1⟩;have hB1:Below W1.heap.size W1 v1:=(by rw[hv1];exact ba (by repeat(first | (exact Below.refl _ _) | (refine Below.drew ?_))) _);have hbx:v1.cell? ⟨W1.heap.size,0,none⟩=some (.map (some B.mb)):=(by rw[hv1];exact(Blk.new _ _ _).cell 0);obtain⟨x0,x5,x3,x4⟩:=HCL.out v1 hB1;have HB1:=hid hB1;have HBX:=hid hbx;clear hv1 hB1 hbx)
   | (go_at_call 67;(with_reducible refine(SRT.out v1 _ HB1.out HBX.out).mono ?_);rintro e v2 ⟨va,ys,rfl,hr,hsrt⟩;obtain⟨ra,rc,rfl⟩:=row_form1 hr.row;obtain⟨rn,hrn⟩: ∃rn,rn=ys.length:=⟨_,rfl⟩;rw[←hrn] at hr ⊢;have hB2:Below W1.heap.size W1 v2:=bx HB1.out hr.bel;obtain⟨y0,y5,y3,y4⟩:=HCL.out v2 hB2;obtain⟨W3,hst,k3,o3⟩:=rep_st (HW.out.2.2.2.2.1.bel hB2) rfl pa ra none none pn pc rn rc 0 0 0 0 ((m:Int)-1) 0;have K3:=hid (⟨k3,o3⟩:_∧_);obtain⟨q0,q5,q3,q4⟩:=cellsLok HCL.out hB2 o3 HLT.out;clear k3 o3;have HRI:=hid (⟨hr,hsrt,hB2,hrn⟩:_∧_∧_∧_);clear hr hsrt hB2 hrn))
 have HLI:Hid (LokI W1 rb (.slice pa pn pc) (.slice ra rn rc) (.slice none 0 0) (.slice none 0 0) ((m:Int)-1) 0 ys [] [] W3):=by
  have hrow:=HRI.out.1.row
  have h1:=K3.out
  have h2:=HRI.out.2.2.1
  have h3:=HLT.out
  refine⟨(Only.of_below h2 [rb]).trans h1.2 (fun _ h=>Or.inl h),h3.2.2.2.2.1,h1.1,?_,World.ownsRow_nil _ _ _ _,World.ownsRow_nil _ _ _ _,fun k hk=>by simp[Value.ownBlock] at hk,fun k hk=>by simp[Value.ownBlock] at hk⟩
  refine h1.2.own (hrow.mono HB1.out.size) (fun k hk hmm=> ?_)
  have:=(hrow.lt k hk).1
  have:=HB1.out.size
  simp at hmm
  omega
 have HRY:=hid (⟨HRI.out.1.perm,HRI.out.2.1,HRI.out.2.2.2⟩:_∧_∧_)
 have hpos:0<ys.length:=by
  have h1:=HRY.out.1.length_eq
  have h2:=congrArg List.length HKS.out.2.1
  have h3:=whole_pos HX.out.1
  simp at h1 h2
  omega
 have hrn6:rn≤200000:=by
  have h1:=HRY.out.1.length_eq
  have h2:=congrArg List.length HKS.out.2.1
  have h3:=HFEW.out.2.2.2
  have h4:=HRY.out.2.2
  rw[←h2] at h3
  simp at h1 h3
  omega
 have HRO:=hid (own_some HLI.out.rrow hpos)
 obtain⟨g2,cp2,hsl,_⟩:=HRO.out
 injection hsl with hs1 hs2 hs3
 subst hs1
 clear hs2 hs3
 clear HRO hpos
 clear HRI K3 HB1 HBX SRT hbld hst y0 y5 y3 y4 x0 x5 x3 x4 z0 z5 z3 z4 z0d z5d z3d z4d
 gi_wp2
 gi_loopw [4,37] (fun rv4 iv wr=> ∃i:Nat,i≤m∧iv= .int .i64 i∧Hid (LokI W1 rb (.slice pa pn pc) (.slice (some ⟨g2,0,none⟩) rn rc) (.slice none 0 0) (.slice none 0 0) ((m:Int)-1) (sumTo rs i) ys [] [] wr)) (fun _ iv _=>m- (intOf iv).toNat)
 case atStart=>exact⟨0,Nat.zero_le _,rfl,HLI⟩
 case round=>
  obtain⟨i,hi,rfl,hI⟩:=hrel
  have i0:(0:Int)≤(i:Int):=by omega
  by_cases hlt:i<m
  ·have i1:(i:Int)< (m:Int):=by omega
   obtain⟨row,hrow⟩: ∃row,rs[i]?=some row:=⟨_,List.getElem?_eq_getElem (by have:=HX.out.2.2.1;omega)⟩
   have hrb:W1.heap[rb]?=_:=HW.out.2.2.2.2.1
   have hV:=HW.out.2.2.1.only hI.out.only (fun k hk=>Or.inr (by
    rw[List.mem_singleton.1 hk,hrb]
    exact fun cs fr=>⟨(fun h=>by injection h with h;injection h with _ h;cases h),(fun h=>by injection h with h;injection h with _ h;cases h)⟩))
   obtain⟨g',cp',hgs,_,_,hrd⟩:=hV.ld (by intro e;rw[e] at hrow;simp at hrow)
   injection hgs with hg1 hg2 hg3
   clear hg2 hg3
   injection hg1 with hg1
   injection hg1 with hg1
   subst hg1
   obtain⟨ra',rc',hcell,_⟩:=hrd i row hrow
   obtain⟨rl,hrl⟩: ∃rl,rl=row.length:=⟨_,rfl⟩
   rw[←hrl] at hcell
   obtain⟨S,hS⟩: ∃S,S=sumTo rs i:=⟨_,rfl⟩
   have hI':=hI.out
   rw[←hS] at hI'
   have c5:wr.cell? ⟨rb,5,none⟩=some (.int .i64 S):=hI'.rep.cell 5
   have f5:=hI'.rep.frozen 5
   have dS:IntKind.i64.wrap (S+(rl:Int))=S+(rl:Int):=by
    have h1:=HFEW.out.2.2.1
    have h2:=sumTo_le h1 i (by have:=HX.out.2.2.1;omega)
    have h3:=h1 row (List.mem_of_getElem? hrow)
    rw[←hS] at h2
    have h4:(i:Int)*((8320:Nat):Int)≤16*8320:=by
     have:(i:Int)≤16:=by omega
     omega
    rw[IntWalk.i64_in _ (by omega)]
   have HN:Hid (LokI W1 rb (.slice pa pn pc) (.slice (some ⟨g2,0,none⟩) rn rc) (.slice none 0 0) (.slice none 0 0) ((m:Int)-1) (sumTo rs (i+1)) ys [] [] (wr.setCell ⟨rb,5,none⟩ (.int .i64 (S+(rl:Int))))):=by
    have h1:=hI'.node (S+(rl:Int))
    have e:S+(rl:Int)=sumTo rs (i+1):=by rw[sumTo_succ hrow,hS,hrl]
    rw[e]
    rw[e] at h1
    exact h1
   have HLTM:=hid hlt
   clear hlt hrow hrb hV hrd hrl hS hI'
   gi_wp2
   go_roundw
   case rel=>exact⟨i+1,HLTM.out,by go_num,HN⟩
   case measure=>simp[intOf];have:=HLTM.out;omega
  ·obtain rfl:i=m:=by omega
   have i1: ¬(i:Int)< (i:Int):=by omega
   have hI':=hI.out
   have hmr:=HX.out.2.2.1
   rw[show sumTo rs i=nodesI rs by rw[hmr];exact sumTo_all rs] at hI'
   have c1:wr.cell? ⟨rb,1,none⟩=some (.slice (some ⟨g2,0,none⟩) rn rc):=hI'.rep.cell 1
   have HA:=hid hI'
   clear hlt hI' hmr
   gi_wp2
   gi_loopw [6,51] (fun v6 iv wr=> ∃(j:Nat) (fv:Value),j≤rn∧iv= .int .i64 j∧Hid (LokI W1 rb (.slice pa pn pc) (.slice (some ⟨g2,0,none⟩) rn rc) fv (.slice none 0 0) ((i:Int)-1) (nodesI rs) ys ((ys.take j).filter fun a=> !usedB bs a) [] wr)) (fun _ iv _=>rn- (intOf iv).toNat)
   case atStart=>exact⟨0,_,Nat.zero_le _,rfl,HA⟩
   case round=>
    obtain⟨j,fv,hj,rfl,hJ⟩:=hrel
    obtain⟨wB,rfl⟩: ∃x,x=wr:=⟨_,rfl⟩
    have j0:(0:Int)≤(j:Int):=by omega
    by_cases hjr:j<rn
    ·have j1:(j:Int)< (rn:Int):=by omega
     have hrow:=hJ.out.rrow
     have hlen:=HRY.out.2.2
     obtain⟨x,hx⟩: ∃x,ys[j]?=some x:=⟨_,List.getElem?_eq_getElem (by omega)⟩
     unfold rowU at hrow
     obtain⟨g3,cp3,hsl,hge2,_,hlt2,hc2⟩:=own_some hrow (by omega)
     injection hsl with hs1 hs2 hs3
     clear hs2 hs3
     injection hs1 with hs1
     injection hs1 with hs1
     subst hs1
     have c6:wB.cell? ⟨g2,j,none⟩=some (.int .u64 x):=by
      have:=hc2 j _ (by rw[List.getElem?_map,hx];rfl)
      rwa[Nat.zero_add] at this
     have hmem:x∈allA rs++(allE leaves).map (·.2):=by
      have h1:=HRY.out.1.mem_iff.1 (List.mem_of_getElem? hx)
      rw[HKS.out.2.1] at h1
      exact h1
     have hcls:=whole_cls HBY.out HS.out HX.out.1 HX.out.2.1 x hmem
     have hge:=HW.out.1.ge
     have h6:=HLT.out
     have hLB:=HW.out.1.only hJ.out.only (by simp;omega) (by simp;omega) (by simp;omega) (by simp;omega)
     have US:=hid (LUsed_z B bs _ _ _ x (cls_U64 hcls) hcls wB hLB.fix hLB.cells)
     have hxb0:wB.cell? ⟨xb,0,none⟩=some (.pointer (some ⟨B.lb,0,none⟩)):=(hJ.out.only.blk HW.out.2.2.2.1 (by simp;omega)).cell 0
     have hfl:((ys.take j).filter fun a=> !usedB bs a).length≤1000000:=by
      have h1:=List.length_filter_le (fun a=> !usedB bs a) (ys.take j)
      have h2:=HRY.out.1.length_eq
      have h3:=HFEW.out.2.2.2
      rw[List.length_take] at h1
      rw[←HKS.out.2.1,List.length_map] at h3
      simp at h2
      omega
     have htk:ys.take (j+1)=ys.take j++[x]:=by rw[List.take_add_one,hx];rfl
     have HTK:=hid (⟨htk,hfl,hjr⟩:_∧_∧_)
     clear hrow hlen hx hge2 hlt2 hc2 hmem hcls hge h6 hLB hfl htk hjr hj
     obtain⟨ub,hub⟩: ∃ub,ub=usedB bs x:=⟨_,rfl⟩
     rw[←hub] at US
     have HUB:=hid hub
     clear hub
     cases ub with
     | true=>
      gi_wp2_with fail
      refine⟨trivial,(callsIn_wide.2 US.out).mono ?_⟩
      rintro e w2 ⟨rfl,hb2⟩
      have HN:Hid (LokI W1 rb (.slice pa pn pc) (.slice (some ⟨g2,0,none⟩) rn rc) fv (.slice none 0 0) ((i:Int)-1) (nodesI rs) ys ((ys.take (j+1)).filter fun a=> !usedB bs a) [] w2):=by
       have h1:=hJ.out.bel hb2
       rw[HTK.out.1,List.filter_append]
       refine hid ?_
       simpa[←HUB.out] using h1
      clear hb2
      gi_wp2
      go_roundw
      case rel=>exact⟨j+1,fv,HTK.out.2.2,by go_num,HN⟩
      case measure=>simp[intOf];have:=HTK.out.2.2;omega
     | false=>
      gi_wp2_with fail
      refine⟨trivial,(callsIn_wide.2 US.out).mono ?_⟩
      rintro e w2 ⟨rfl,hb2⟩
      have h1:=hJ.out.bel hb2
      obtain⟨va,vc,w9,hrun,z2,f2,hN9,_⟩:=h1.fault x HTK.out.2.1
      obtain⟨fn,hfn⟩: ∃fn,fn=((ys.take j).filter fun a=> !usedB bs a).length+1:=⟨_,rfl⟩
      rw[←hfn] at hrun hN9
      have q2:w2.cell? ⟨rb,2,none⟩=some fv:=h1.rep.cell 2
      have HN:Hid (LokI W1 rb (.slice pa pn pc) (.slice (some ⟨g2,0,none⟩) rn rc) (.slice va fn vc) (.slice none 0 0) ((i:Int)-1) (nodesI rs) ys ((ys.take (j+1)).filter fun a=> !usedB bs a) [] (w9.setCell ⟨rb,2,none⟩ (.slice va fn vc))):=by
       rw[HTK.out.1,List.filter_append]
       refine hid ?_
       simpa[←HUB.out] using hN9
      clear hb2 h1 hN9 hfn
      gi_wp2
      go_roundw
      case rel=>exact⟨j+1,_,HTK.out.2.2,by go_num,HN⟩
      case measure=>simp[intOf];have:=HTK.out.2.2;omega
    ·obtain rfl:j=rn:=by omega
     have j1: ¬(j:Int)< (j:Int):=by omega
     have hJ':=hJ.out
     have htk:ys.take j=ys:=by rw[HRY.out.2.2,List.take_length]
     rw[htk] at hJ'
     have hge:=HW.out.1.ge
     have h6:=HLT.out
     have hLB:=HW.out.1.only hJ'.only (by simp;omega) (by simp;omega) (by simp;omega) (by simp;omega)
     have d0:wB.cell? ⟨xb,0,none⟩=some (.pointer (some ⟨B.lb,0,none⟩)):=(hJ'.only.blk HW.out.2.2.2.1 (by simp;omega)).cell 0
     have d1:wB.cell? ⟨B.lb,1,none⟩=some (.slice (some ⟨B.hb,0,none⟩) (nsI bs+1) B.hc):=hLB.cells.cell 1
     obtain⟨hn,hhn⟩: ∃hn,hn=nsI bs+1:=⟨_,rfl⟩
     rw[←hhn] at d1
     have hn65:hn≤65:=by
      have:=(slabs_len HS.out).2.2.2
      rw[hhn];unfold nsI;have:=(slabs_len HS.out).2.1;omega
     have HHN:=hid hhn
     have HC:=hid hJ'
     clear hJ' htk hge h6 hLB hhn hjr hj
     gi_wp2
     have HI0:Hid (Lok3 W1 rb (.slice pa pn pc) (.slice (some ⟨g2,0,none⟩) j rc) fv (.slice none 0 0) ((i:Int)-1) (nodesI rs) ys (ys.filter fun a=> !usedB bs a) bs 0 [] wB):=⟨HC.out,(fun d hd=>by cases hd),List.nodup_nil⟩
     clear d0 d1
     refine wpIn_loop (fun(a:Act) (W:World)=> ∃(k:Nat) (kv:Value) (Ds:List Nat),k≤hn∧Ds.length=k∧Hid (Lok3 W1 rb (.slice pa pn pc) (.slice (some ⟨g2,0,none⟩) j rc) fv kv ((i:Int)-1) (nodesI rs) ys (ys.filter fun a=> !usedB bs a) bs k Ds W)∧ ∃u7 u8 u9 u10 u11 u12 u72 u73 u74 u75 u76 u77 u78 u79 u80 u81 u82 u83 u84 u85 u86 u87 u88 u89 u90 u91 u92 u93 u94 u95 u96 u97 u98 u99 u100 u101 u102:Value,a={ tmps:= #[Value.pointer (some { block:=ib,off:=0 }),Value.pointer (some { block:=rb,off:=0 }),Value.pointer (some { block:=xb,off:=0 }),undef,u4,undef,u6,u7,u8,u9,u10,u11,u12,Value.slice (some { block:=b,off:=off }) n cap,Value.pointer (some { block:=B.lb,off:=0 }),Value.pointer (some { block:=B.lb,off:=0 }),Value.pointer (some { block:=B.lb,off:=0 }),Value.pointer (some { block:=B.lb,off:=5 }),Value.slice pa pn pc,Value.pointer (some { block:=B.lb,off:=0 }),Value.pointer (some { block:=B.lb,off:=0 }),Value.pointer (some { block:=B.lb,off:=3 }),Value.map (some B.mb),Value.func (Fn.func 156) #[] #[Value.pointer (some { block:=W1.heap.size,off:=0 })],Value.slice (some { block:=g2,off:=0 }) j rc,Value.pointer (some { block:=B.lb,off:=0 }),Value.pointer (some { block:=B.lb,off:=0 }),Value.pointer (some { block:=B.lb,off:=4 }),Value.slice (some { block:=g,off:=0 }) i cp,Value.int IntKind.i64 ↑i,Value.int IntKind.i64 (↑i-1),Value.agg #[Value.slice pa pn pc,Value.slice (some { block:=g2,off:=0 }) j rc,Value.slice none 0 0,Value.slice none 0 0,Value.int IntKind.i64 (↑i-1),Value.int IntKind.i64 0],Value.pointer (some { block:=B.lb,off:=0 }),Value.pointer (some { block:=B.lb,off:=0 }),Value.pointer (some { block:=B.lb,off:=4 }),Value.slice (some { block:=g,off:=0 }) i cp,Value.int IntKind.i64 ↑i,Value.int IntKind.i64 ↑i,Value.bool false,u39,u40,u41,u42,u43,u44,u45,u46,u47,Value.pointer (some { block:=rb,off:=1 }),Value.slice (some { block:=g2,off:=0 }) j rc,Value.int IntKind.i64 ↑j,Value.int IntKind.i64 ↑j,Value.bool false,u53,u54,u55,u56,u57,u58,u59,u60,u61,u62,u63,u64,u65,Value.pointer (some { block:=B.lb,off:=0 }),Value.pointer (some { block:=B.lb,off:=0 }),Value.pointer (some { block:=B.lb,off:=1 }),Value.slice (some { block:=B.hb,off:=0 }) hn B.hc,Value.int IntKind.i64 ↑hn,Value.int IntKind.i64 (k:Int),u72,u73,u74,u75,u76,u77,u78,u79,u80,u81,u82,u83,u84,u85,u86,u87,u88,u89,u90,u91,u92,u93,u94,u95,u96,u97,u98,u99,u100,u101,u102],defers:=Ds.map marked }) (fun a _=>hn-a.defers.length) ?_ ?_
     ·refine⟨0,_,[],Nat.zero_le _,rfl,HI0,?_⟩
      (repeat apply Exists.intro)
      rfl
     rintro a W ⟨k,kv,Ds,hk,hds,hI,hinv⟩
     obtain⟨u7,hinv⟩:=hinv
     obtain⟨u8,hinv⟩:=hinv
     obtain⟨u9,hinv⟩:=hinv
     obtain⟨u10,hinv⟩:=hinv
     obtain⟨u11,hinv⟩:=hinv
     obtain⟨u12,hinv⟩:=hinv
     obtain⟨u72,hinv⟩:=hinv
     obtain⟨u73,hinv⟩:=hinv
     obtain⟨u74,hinv⟩:=hinv
     obtain⟨u75,hinv⟩:=hinv
     obtain⟨u76,hinv⟩:=hinv
     obtain⟨u77,hinv⟩:=hinv
     obtain⟨u78,hinv⟩:=hinv
     obtain⟨u79,hinv⟩:=hinv
     obtain⟨u80,hinv⟩:=hinv
     obtain⟨u81,hinv⟩:=hinv
     obtain⟨u82,hinv⟩:=hinv
     obtain⟨u83,hinv⟩:=hinv
     obtain⟨u84,hinv⟩:=hinv
     obtain⟨u85,hinv⟩:=hinv
     obtain⟨u86,hinv⟩:=hinv
     obtain⟨u87,hinv⟩:=hinv
     obtain⟨u88,hinv⟩:=hinv
     obtain⟨u89,hinv⟩:=hinv
     obtain⟨u90,hinv⟩:=hinv
     obtain⟨u91,hinv⟩:=hinv
     obtain⟨u92,hinv⟩:=hinv
     obtain⟨u93,hinv⟩:=hinv
     obtain⟨u94,hinv⟩:=hinv
     obtain⟨u95,hinv⟩:=hinv
     obtain⟨u96,hinv⟩:=hinv
     obtain⟨u97,hinv⟩:=hinv
     obtain⟨u98,hinv⟩:=hinv
     obtain⟨u99,hinv⟩:=hinv
     obtain⟨u100,hinv⟩:=hinv
     obtain⟨u101,hinv⟩:=hinv
     obtain⟨u102,hinv⟩:=hinv
     subst hinv
     have k0:(0:Int)≤(k:Int):=by omega
     by_cases hlt:k<hn
     ·have k1:(k:Int)< (hn:Int):=by omega
      have hge:=HW.out.1.ge
      have h6:=HLT.out
      have hLB:=HW.out.1.only hI.out.lok.only (by simp;omega) (by simp;omega) (by simp;omega) (by simp;omega)
      obtain⟨c,hc⟩: ∃c,c=hclsI bs k:=⟨_,rfl⟩
      obtain⟨t,ht⟩: ∃t,t=hbitI bs k:=⟨_,rfl⟩
      obtain⟨e1,e2⟩:=hLB.fix.heads k (by have:=HHN.out;omega)
      rw[←hc] at e1
      rw[←ht] at e2
      have hb8:=hLB.fix.hlt
      have HCT:=hid (⟨hc,ht,hlt⟩:_∧_∧_)
      have HK:=hid (⟨hk,hds⟩:_∧_)
      clear hge h6 hLB hc ht hlt hk hds
      gi_wp2_with fail
      obtain⟨W2,hW2⟩: ∃W2,W2=(W.alloc (Obj.cells #[Value.int IntKind.i64 ↑k] 3)).alloc (Obj.cells #[Value.int IntKind.i64 ↑c,Value.int IntKind.u64 ↑t] 151):=⟨_,rfl⟩
      rw[←hW2]
      have hb2:Below W.heap.size W W2:=by rw[hW2];exact ba (ba (Below.refl _ _) _) _
      have hz2:Hid (W2.heap.size=W.heap.size+2):=hid (by rw[hW2];simp)
      have k7:Blk W2 W.heap.size 3 #[.int .i64 (k:Int)]:=by rw[hW2];exact(Blk.new W _ _).alloc _
      have k8:Blk W2 (W.heap.size+1) 151 #[.int .i64 (c:Int),.int .u64 (t:Int)]:=by
       rw[hW2]
       have:=Blk.new (W.alloc (Obj.cells #[Value.int IntKind.i64 ↑k] 3)) 151 #[.int .i64 (c:Int),.int .u64 (t:Int)]
       simpa only[World.size_alloc] using this
      clear hW2
      refine⟨trivial,(Bits_make _ _ _).mono ?_⟩
      rintro e W6 ⟨rfl,rfl⟩
      gi_wp2_with fail
      obtain⟨W5,hW5⟩: ∃W5,W5=W2.alloc (Obj.cells #[Value.int IntKind.u64 ↑t] 46):=⟨_,rfl⟩
      rw[←hW5]
      have hz5:W5.heap.size=W.heap.size+3:=by rw[hW5];simp[hz2.out]
      have hb5:Below W2.heap.size W2 W5:=by rw[hW5];exact ba (Below.refl _ _) _
      have hs5:W5.cell? ⟨W2.heap.size,0,none⟩=some (.int .u64 (t:Int)):=by rw[hW5];exact(Blk.new W2 46 #[.int .u64 (t:Int)]).cell 0
      clear hW5
      have hz2:=hz2.out
      have hI':=hI.out
      have hw1:=hI'.lok.only.size
      have HI5:Lok4 W1 rb (.slice pa pn pc) (.slice (some ⟨g2,0,none⟩) j rc) fv kv ((i:Int)-1) (nodesI rs) ys (ys.filter fun a=> !usedB bs a) ((List.range k).flatMap (leaksAt bs ys)) W.heap.size (W.heap.size+1) k c t Ds W5.heap.size [] W5:=by
       refine⟨⟨by omega,by omega,by omega,by omega,by omega⟩,Nat.le_refl _,⟨kv,?_,Or.inl rfl⟩,k7.bel hb5,k8.bel hb5,fun d hd=> ?_⟩
       ·have:=(hI'.lok.bel hb2).bel hb5
        simpa[leaksPre] using this
       ·have h1:=(hI'.ds d hd).1
        have h2:=(Array.getElem?_eq_some_iff.1 h1).1
        exact⟨(hb5.block d (Nat.lt_of_lt_of_le h2 hb2.size)).trans ((hb2.block d h2).trans h1),by omega⟩
      have hte:t<18446744073709551616:=by
       rw[HCT.out.2.1];unfold hbitI
       split
       ·omega
       ·exact bitAt_lt HBY.out k
      have HSZ:=hid (⟨hz2,hz5,hw1,hte⟩:_∧_∧_∧_)
      clear hI' hw1 hz2 hz5 hb2 hb5 k7 k8 e1 e2
      have F3:Hid (rb<W5.heap.size∧(∀q,kv.ownBlock=some q→q<W.heap.size)∧rb<W.heap.size):=by
       have h1:=hI.out.lok.rlt
       have h2:=HSZ.out.2.2.1
       have h3:=HSZ.out.2.1
       exact hid ⟨by omega,fun q hq=>(hI.out.lok.ge.2.2 q hq).2,by omega⟩
      refine wpIn_rangeFunc_ownG rfl (by omega) (gf:=158) (lb:= #[.pointer (some ⟨W2.heap.size,0,none⟩)]) rfl trivial (enters_of Tryz.func158 (by kernel_rfl) rfl)
       (Bits_stops 5 t hte (rb::kv.ownBlock.toList) W5.heap.size W2.heap.size W5 (by have h1:=HSZ.out.1;have h2:=HSZ.out.2.1;omega) (fun hm=>by
        have h3:=F3.out
        have h4:=HSZ.out.1
        have h5:=h3.2.2
        rcases List.mem_cons.1 hm with e | e
        ·omega
        ·have:=h3.2.1 _ (by simpa[Option.mem_toList] using e);omega) (Nat.le_refl _) hs5) KeepN.trans ?hKb (Below.refl _ _) (fun _=>rfl)
       (Lok4 W1 rb (.slice pa pn pc) (.slice (some ⟨g2,0,none⟩) j rc) fv kv ((i:Int)-1) (nodesI rs) ys (ys.filter fun a=> !usedB bs a) ((List.range k).flatMap (leaksAt bs ys)) W.heap.size (W.heap.size+1) k c t Ds W5.heap.size) (fun _ _ _=>False) ?hI ?hX HI5
       (fun x=>{ tmps:= #[Value.pointer (some { block:=ib,off:=0 }),Value.pointer (some { block:=rb,off:=0 }),Value.pointer (some { block:=xb,off:=0 }),undef,u4,undef,u6,Value.pointer (some { block:=W.heap.size,off:=0 }),Value.pointer (some { block:=W.heap.size+1,off:=0 }),Value.int IntKind.i64 (x.val:Int),u10,u11,u12,Value.slice (some { block:=b,off:=off }) n cap,Value.pointer (some { block:=B.lb,off:=0 }),Value.pointer (some { block:=B.lb,off:=0 }),Value.pointer (some { block:=B.lb,off:=0 }),Value.pointer (some { block:=B.lb,off:=5 }),Value.slice pa pn pc,Value.pointer (some { block:=B.lb,off:=0 }),Value.pointer (some { block:=B.lb,off:=0 }),Value.pointer (some { block:=B.lb,off:=3 }),Value.map (some B.mb),Value.func (Fn.func 156) #[] #[Value.pointer (some { block:=W1.heap.size,off:=0 })],Value.slice (some { block:=g2,off:=0 }) j rc,Value.pointer (some { block:=B.lb,off:=0 }),Value.pointer (some { block:=B.lb,off:=0 }),Value.pointer (some { block:=B.lb,off:=4 }),Value.slice (some { block:=g,off:=0 }) i cp,Value.int IntKind.i64 ↑i,Value.int IntKind.i64 (↑i-1),Value.agg #[Value.slice pa pn pc,Value.slice (some { block:=g2,off:=0 }) j rc,Value.slice none 0 0,Value.slice none 0 0,Value.int IntKind.i64 (↑i-1),Value.int IntKind.i64 0],Value.pointer (some { block:=B.lb,off:=0 }),Value.pointer (some { block:=B.lb,off:=0 }),Value.pointer (some { block:=B.lb,off:=4 }),Value.slice (some { block:=g,off:=0 }) i cp,Value.int IntKind.i64 ↑i,Value.int IntKind.i64 ↑i,Value.bool false,u39,u40,u41,u42,u43,u44,u45,u46,u47,Value.pointer (some { block:=rb,off:=1 }),Value.slice (some { block:=g2,off:=0 }) j rc,Value.int IntKind.i64 ↑j,Value.int IntKind.i64 ↑j,Value.bool false,u53,u54,u55,u56,u57,u58,u59,u60,u61,u62,u63,u64,u65,Value.pointer (some { block:=B.lb,off:=0 }),Value.pointer (some { block:=B.lb,off:=0 }),Value.pointer (some { block:=B.lb,off:=1 }),Value.slice (some { block:=B.hb,off:=0 }) hn B.hc,Value.int IntKind.i64 ↑hn,Value.int IntKind.i64 (k:Int),Value.bool true,Value.int IntKind.i64 ↑k,Value.pointer (some { block:=B.hb,off:=k*2 }),Value.agg #[Value.int IntKind.i64 ↑c,Value.int IntKind.u64 ↑t],Value.pointer (some { block:=W.heap.size+1,off:=1 }),Value.int IntKind.u64 ↑t,Value.func (Fn.func 158) #[] #[Value.pointer (some { block:=W2.heap.size,off:=0 })],Value.int IntKind.i64 (x.val:Int),u80,u81,u82,u83,u84,u85,u86,u87,u88,u89,u90,u91,u92,u93,u94,u95,u96,u97,u98,u99,u100,u101,u102],defers:=[] }) ?assign ?body ?done ?stop
      case hKb=>
       intro W' l o o' hl ho hc hw
       exact KeepN.putObj (KeepN.refl _ _ _) hl _
      case hI=>
       intro s A W' row h hg hr
       exact h.grown hg (fun r e=>hr r e)
      case hX=>
       intro c s A W' row h hg hr
       exact h
      case assign=>
       intro l x W' K hK
       gi_wp2
       exact hK
      case stop=>exact fun _ _ _ _ _ _ h=>h.elim
      case body=>
       rintro l pre x W7 hI7 hlt7
       have y7:W7.cell? ⟨W.heap.size,0,none⟩=some (.int .i64 (k:Int)):=hI7.b7.cell 0
       have y8:W7.cell? ⟨W.heap.size+1,0,none⟩=some (.int .i64 (c:Int)):=hI7.b8.cell 0
       have HI7:=hid hI7
       have HK7:=hid hlt7
       clear hI7 hlt7
       gi_wp2_with fail
       refine⟨trivial,(CallsIn.inRound l (callsIn_wide.2 (Block_z (k:Int) (c:Int) (x.val:Int) W7))).mono ?_⟩
       rintro e W8 ⟨rfl,hb8⟩
       have H8:=HI7.out.bel hb8
       obtain⟨kv8,hlok8,_⟩:=H8.lok
       have hge:=HW.out.1.ge
       have h6:=HLT.out
       have hLB8:=HW.out.1.only hlok8.only (by simp;omega) (by simp;omega) (by simp;omega) (by simp;omega)
       have d0:W8.cell? ⟨xb,0,none⟩=some (.pointer (some ⟨B.lb,0,none⟩)):=(hlok8.only.blk HW.out.2.2.2.1 (by simp;omega)).cell 0
       have d3:W8.cell? ⟨B.lb,3,none⟩=some (.map (some B.mb)):=hLB8.cells.cell 3
       have hlk:=hLB8.set.look (blockZ (k:Int) (c:Int) (x.val:Int))
       have hmem:blockZ (k:Int) (c:Int) (x.val:Int)∈allA rs++(allE leaves).map (·.2)↔blockZ (k:Int) (c:Int) (x.val:Int)∈ys:=by
        have h1:=HRY.out.1.mem_iff (a:=blockZ (k:Int) (c:Int) (x.val:Int))
        rw[HKS.out.2.1] at h1
        exact h1.symm
       have hlen8:(((List.range k).flatMap (leaksAt bs ys))++leaksPre ys k c pre).length≤1000000:=by
        have h1:=leaks_len bs ys k
        have h2:=leaksPre_len ys k c pre
        have h3:=HK7.out
        rw[List.length_append]
        omega
       have HB8:=hid (⟨hb8,H8⟩:_∧_)
       clear hge h6 hLB8 hlok8 H8 hb8 y7 y8
       by_cases hin:blockZ (k:Int) (c:Int) (x.val:Int)∈ys
       ·rw[decide_eq_true (hmem.2 hin)] at hlk
        have HY:=hid (HB8.out.2.yes hin)
        clear hmem hlen8 hin
        have HFIN:Hid (KeepsFrom W5.heap.size W7 (W8.alloc (.cells #[] 147))∧KeepN (rb::kv.ownBlock.toList) W5.heap.size W7 (W8.alloc (.cells #[] 147))∧Lok4 W1 rb (.slice pa pn pc) (.slice (some ⟨g2,0,none⟩) j rc) fv kv ((i:Int)-1) (nodesI rs) ys (ys.filter fun a=> !usedB bs a) ((List.range k).flatMap (leaksAt bs ys)) W.heap.size (W.heap.size+1) k c t Ds W5.heap.size (pre++[x]) (W8.alloc (.cells #[] 147))):=by
         have hb9:=ba HB8.out.1 (.cells #[] 147)
         exact hid ⟨keepBel hb9,keepNBel hb9 HI7.out.sz,HY.out.bel (ba (Below.refl _ _) _)⟩
        gi_wp2_with fail
        exact HFIN.out
       ·rw[decide_eq_false (fun h=>hin (hmem.1 h))] at hlk
        have HN8:=hid hin
        have HLEN:=hid hlen8
        have hb9:Below W8.heap.size W8 (W8.alloc (.cells #[] 147)):=ba (Below.refl _ _) _
        obtain⟨kv9,va,ln,vc,w9,q1,q2,q3,q4,q5,q6,q7⟩:=(HB8.out.2.bel hb9).leak hin hlen8
        obtain⟨kv0,q8,_⟩:=HB8.out.2.lok
        have q9:=q8.rep.cell 3
        have q10:(W8.alloc (.cells #[] 147)).cell? ⟨rb,3,none⟩=some kv0:=(q8.bel hb9).rep.cell 3
        rw[q10] at q1
        have q11:kv0=kv9:=by simpa using q1
        subst q11
        have q9':W8.cell? ⟨rb,3,none⟩=some kv0:=q9
        simp only[World.size_alloc] at q2
        have HFIN:Hid (KeepsFrom W5.heap.size W7 (w9.setCell ⟨rb,3,none⟩ (.slice va ln vc))∧KeepN (rb::kv.ownBlock.toList) W5.heap.size W7 (w9.setCell ⟨rb,3,none⟩ (.slice va ln vc))∧Lok4 W1 rb (.slice pa pn pc) (.slice (some ⟨g2,0,none⟩) j rc) fv kv ((i:Int)-1) (nodesI rs) ys (ys.filter fun a=> !usedB bs a) ((List.range k).flatMap (leaksAt bs ys)) W.heap.size (W.heap.size+1) k c t Ds W5.heap.size (pre++[x]) (w9.setCell ⟨rb,3,none⟩ (.slice va ln vc))):=
         hid ⟨keepFT (keepBel (bx HB8.out.1 hb9)) q6,(keepNBel (bx HB8.out.1 hb9) HI7.out.sz).trans q7,q5⟩
        clear hmem hin hlen8 hb9 q1 q5 q6 q7 q8 q9
        gi_wp2_with fail
        exact HFIN.out
      case done=>
       rintro D xs W8 hD rfl hI8 hK8
       obtain⟨kv8,hlok8,_⟩:=hI8.lok
       have hnext: ∀W9,Below W8.heap.size W8 W9→Lok3 W1 rb (.slice pa pn pc) (.slice (some ⟨g2,0,none⟩) j rc) fv kv8 ((i:Int)-1) (nodesI rs) ys (ys.filter fun a=> !usedB bs a) bs (k+1) (D::Ds) W9:=by
        intro W9 hb9
        have hDl:D<W8.heap.size:=(Array.getElem?_eq_some_iff.1 hK8).1
        refine⟨?_,fun d hd=> ?_,List.nodup_cons.2 ⟨fun hm=> ?_,hI.out.nd⟩⟩
        ·rw[List.range_succ,List.flatMap_append]
         have h1:=hlok8.bel hb9
         rw[HCT.out.1,HCT.out.2.1] at h1
         simpa[leaksAt] using h1
        ·rcases List.mem_cons.1 hd with rfl | hd
         ·exact⟨(hb9.block _ hDl).trans hK8,by have:=hI8.z.1;omega⟩
         ·have h1:=(hI8.ds d hd).1
          exact⟨(hb9.block _ (Array.getElem?_eq_some_iff.1 h1).1).trans h1,(hI.out.ds d hd).2⟩
        ·have:=(hI8.ds D hm).2;omega
       have HNX:=hid (hnext W8 (Below.refl _ _))
       have hKd:=hid hK8
       clear hI8 hlok8 hnext hK8
       gi_wp2
       refine⟨⟨k+1,kv8,D::Ds,HCT.out.2.2,by simp[HK.out.2],HNX,?_⟩,?_⟩
       ·rw[show((k+1:Nat):Int)=(k:Int)+1 by omega]
        (repeat apply Exists.intro)
        rfl
       ·have h1:=HK.out.2
        have h2:=HCT.out.2.2
        simp only[List.length_cons,List.length_map]
        omega
     ·have hkn:k=hn:=by omega
      have k1: ¬(k:Int)< (hn:Int):=by omega
      have HKN:=hid hkn
      clear hkn hk hlt
      gi_wp2
      refine leaves_marks Ds W (fun d hd=>(hI.out.ds d hd).1) hI.out.nd (fun W' ho=> ?_)
      refine⟨.tuple #[],by simp[results,Tryz.results65,go_sem],Or.inl ⟨rfl,?_⟩⟩
      have h1:=hI.out.lok.turn ho (fun d hd=>⟨(hI.out.ds d hd).2,Or.inr (fun cs t fr e=>by rw[(hI.out.ds d hd).1] at e;cases e)⟩)
      rw[HKN.out,HHN.out,HX.out.2.2.1] at h1
      exact⟨rs,ps,leaves,ys,W1,B,_,_,fv,kv,HX.out.1,HX.out.2.1,by rw[←HKS.out.2.1];exact HRY.out.1,HRY.out.2.1,HW.out.2.2.2.2.2,HW.out.2.1,h1⟩
end
section
theorem repStoreAt2 (p v:Value):Instr.storeAt 32 p v=stM 32 p v:=rfl
theorem repLoadAt (p:Value):Instr.loadAt 32 p=ldM 32 p:=rfl
theorem repLoadVar (a:Addr):loadVar 32 a=lvM 32 a:=rfl
attribute [local go_sem ↓ high] repStoreAt2 repLoadAt repLoadVar
attribute [local go_sem] ldM_run lvM_run stM_run
theorem Look1_no (ib rb:Nat) (p:Option Addr) (n cap:Nat) (bs:List Int) (hn:n=bs.length) (h6:n≤1000000) (hs: ¬0<slabsZ bs.length) (w:World)
  (hi:w.cell? ⟨ib,0,none⟩=some (.slice p n cap)):
  CallsIn Fence.wide 6 Tryz.prog 65 #[.pointer (some ⟨ib,0,none⟩),.pointer (some ⟨rb,0,none⟩)] w (CatQ (LokOK bs rb w) (LokBad bs w)):=by
 have WH:=hid (Whole_no0 p n cap bs hn h6 hs w)
 have HS:=hid hs
 clear hn hs
 refine callsIn_of_wp_marks Tryz.func65 rfl trivial ?_ rfl
 simp only[Tryz.ntmps65,List.size_toArray,List.length_cons,List.length_nil,Nat.reduceAdd,Nat.reduceSub,Array.replicate_succ,Array.replicate_zero,List.push_toArray,List.append_toArray,List.nil_append,List.cons_append]
 gi_wp2_with fail
 refine⟨trivial,(callsIn_wide.2 WH.out).mono ?_⟩
 rintro e w1 ⟨hb1,(⟨rs,ps,B,lv,pr,hok,rfl,_⟩ | ⟨hno,rfl⟩)⟩
 ·exfalso
  have h1:=hok.slabs.1
  have h2:=HS.out
  omega
 ·exact Or.inr ⟨rfl,hno,hb1⟩
def LookPost (bs:List Int) (w:World) (e:Ending) (w':World):Prop:=
 Below w.heap.size w w'∧((∃rs ps leaves R B pv rv fv kv,WholeOK bs rs ps∧rs.getLast?=some leaves∧R.Perm (allA rs++(allE leaves).map (·.2))∧R.Pairwise (· ≤ ·)∧
   e= .returned (.tuple #[.agg #[pv,rv,fv,kv,.int .i64 (rs.length-1:Int),.int .i64 (nodesI rs)],.int .i64 0])∧
   PrsAt w' w.heap.size B pv ps∧rowU w' w.heap.size rv R∧rowU w' w.heap.size fv (R.filter fun a=> !usedB bs a)∧rowU w' w.heap.size kv (leaksI bs R))∨
  ((∀rs ps,¬WholeOK bs rs ps)∧e= .returned (.tuple #[.agg #[.slice none 0 0,.slice none 0 0,.slice none 0 0,.slice none 0 0,.int .i64 0,.int .i64 0],.int .i64 6])))
theorem Look_z (p:Option Addr) (n cap:Nat) (bs:List Int) (hn:n=bs.length) (h6:n≤1000000) (hcap:cap≤9223372036854775807) (w:World) (h:BytesIn w p cap bs):
  Calls Tryz.prog 15 #[.slice p n cap] w (LookPost bs w):=by
 have hmf: ∀(fn:Fn) (first cap:Array Value) (w:World),(Instr.makeFunc fn first cap).run Tryz.prog w= .ok (.func fn first cap) w:=fun _ _ _ _=>rfl
 obtain⟨W2,hW2⟩: ∃W2,W2=(w.alloc (.cells #[.slice p n cap] 36)).alloc (.cells #[.slice none 0 0,.slice none 0 0,.slice none 0 0,.slice none 0 0,.int .i64 0,.int .i64 0] 32):=⟨_,rfl⟩
 have hb2:Below w.heap.size w W2:=by rw[hW2];exact ba (ba (Below.refl _ _) _) _
 have hz2:W2.heap.size=w.heap.size+2:=by rw[hW2];simp
 have k1:Blk W2 w.heap.size 36 #[.slice p n cap]:=by rw[hW2];exact(Blk.new w _ _).alloc _
 have k2:Blk W2 (w.heap.size+1) 32 #[.slice none 0 0,.slice none 0 0,.slice none 0 0,.slice none 0 0,.int .i64 0,.int .i64 0]:=by
  rw[hW2]
  have:=Blk.new (w.alloc (.cells #[.slice p n cap] 36)) 32 #[.slice none 0 0,.slice none 0 0,.slice none 0 0,.slice none 0 0,.int .i64 0,.int .i64 0]
  simpa only[World.size_alloc] using this
 obtain⟨W3,hW3⟩: ∃W3,W3=W2.alloc (.cells #[.int .i64 0] 33):=⟨_,rfl⟩
 have hb3:Below W2.heap.size W2 W3:=by rw[hW3];exact ba (Below.refl _ _) _
 have hz3:W3.heap.size=W2.heap.size+1:=by rw[hW3];simp
 have k3:Blk W3 W2.heap.size 33 #[.int .i64 0]:=by rw[hW3];exact Blk.new _ _ _
 have hin:Calls Tryz.prog 65 #[.pointer (some ⟨w.heap.size,0,none⟩),.pointer (some ⟨w.heap.size+1,0,none⟩)] W3 (CatQ (LokOK bs (w.heap.size+1) W3) (LokBad bs W3)):=by
  by_cases hs:0<slabsZ bs.length
  ·have hl:=slabs_len hs
   obtain⟨b,off,rfl,hbl,hbc⟩:=h.2.2 (by omega)
   refine callsIn_wide.1 (Look1_in w.heap.size (w.heap.size+1) b off cap n bs hn hcap hs W3 ?_ ((k1.bel hb3).cell 0) (k2.bel hb3))
   have hbb:=bx hb2 hb3
   exact⟨h.1,h.2.1,fun _=>⟨b,off,rfl,Nat.lt_of_lt_of_le hbl hbb.size,fun i x hx=>(hbb.cell (p:=⟨b,off+i,none⟩) hbl).trans (hbc i x hx)⟩⟩
  ·exact callsIn_wide.1 (Look1_no w.heap.size (w.heap.size+1) p n cap bs hn h6 hs W3 ((k1.bel hb3).cell 0))
 have CAT:=hid (Caught_z 65 #[.pointer (some ⟨w.heap.size,0,none⟩),.pointer (some ⟨w.heap.size+1,0,none⟩)] (fun W=>by kernel_rfl) W2 (LokOK bs (w.heap.size+1) W3) (LokBad bs W3) (by rw[←hW3];exact hin) (fun w' hw=>by
  rcases hw with⟨rs,ps,leaves,R,W1,B,pv,rv,fv,kv,_,_,_,_,hb,_,hI⟩ | ⟨_,hb⟩
  ·have:=hI.only.blk (k3.bel hb) (by simp;omega)
   exact⟨this.cell 0,this.frozen 0⟩
  ·exact⟨(k3.bel hb).cell 0,(k3.bel hb).frozen 0⟩))
 have HW:=hid (⟨hb2,hz2,k2,hb3,hz3,k3⟩:_∧_∧_∧_∧_∧_)
 clear hn h6 h hb2 hz2 k1 k2 hb3 hz3 k3 hin
 go_enter Tryz.func15,Tryz.ntmps15
 go_wp2_with fail
 rw[←hW2]
 clear hW2 hW3
 refine CAT.out.mono ?_
 rintro e w5 ⟨w4,(⟨hok,rfl,rfl⟩ | ⟨hbad,rfl,rfl⟩)⟩
 ·obtain⟨rs,ps,leaves,R,W1,B,pv,rv,fv,kv,c1,c2,c3,c4,hb,hP,hI⟩:=hok
  obtain⟨pa,pc,rfl⟩:=row_form1 hP.own
  have hrr:=hI.rrow
  have hfr:=hI.frow
  have hkr:=hI.krow
  unfold rowU at hrr hfr hkr
  obtain⟨ra,rc,rfl⟩:=row_form1 hrr
  obtain⟨fa,fc,rfl⟩:=row_form1 hfr
  obtain⟨ka,kc,rfl⟩:=row_form1 hkr
  obtain⟨W5,hW5⟩: ∃W5,W5=w4.setCell ⟨W2.heap.size,0,none⟩ (.int .i64 0):=⟨_,rfl⟩
  have o5:Only [W2.heap.size] w4 W5:=by rw[hW5];exact(Only.refl _ _).setCell (Or.inl (by simp)) _
  have hh:=HW.out
  have z1:=hb.size
  have z2:=hI.only.size
  have k5:=o5.blk hI.rep (by simp;omega)
  have hld:=k5.ld (P:=Tryz.prog) (ty:=32) Tryz.underlying32 rfl (by kernel_rfl)
  have hlv:=k5.lv (P:=Tryz.prog) (ty:=32) Tryz.underlying32 rfl (by kernel_rfl)
  have hst:=k5.st_same (P:=Tryz.prog) (ty:=32) (by kernel_rfl) (by kernel_rfl)
  have bel:Below w.heap.size w W5:=by
   have h1:Below w.heap.size w W1:=bx (bx hh.1 hh.2.2.2.1) hb
   have h2:=h1.trans (hI.only.below (B:=w.heap.size) (fun x hx=>by simp at hx;omega) h1.size)
   exact h2.trans (o5.below (B:=w.heap.size) (fun x hx=>by simp at hx;omega) h2.size)
  have rows: ∀(v:Value) (xs:List Int),rowU w4 W1.heap.size v xs→rowU W5 w.heap.size v xs:=fun v xs hr=>(o5.own hr (fun k hk hm=>by
   have:=(hr.lt k hk).1
   simp at hm;omega)).mono (by omega)
  have HFIN:Hid (LookPost bs w (.returned (.tuple #[.agg #[.slice pa ps.length pc,.slice ra R.length rc,.slice fa (R.filter fun a=> !usedB bs a).length fc,.slice ka (leaksI bs R).length kc,.int .i64 (rs.length-1:Int),.int .i64 (nodesI rs)],.int .i64 0])) W5):=by
   refine hid ⟨bel,Or.inl ⟨rs,ps,leaves,R,B,_,_,_,_,c1,c2,c3,c4,rfl,⟨?_,hP.apart⟩,rows _ _ hI.rrow,rows _ _ hI.frow,rows _ _ hI.krow⟩⟩
   have q1:=hI.only.own hP.own (fun k hk hm=>by have:=(hP.own.lt k hk).1;simp at hm;omega)
   have q2:=o5.own q1 (fun k hk hm=>by have:=(hP.own.lt k hk).1;simp at hm;omega)
   exact q2.mono (by omega)
  rw[←hW5]
  clear hW5 o5 hh k5 bel rows hrr hfr hkr hP hI c1 c2 c3 c4 hb z1 z2
  go_wp2
  trace_state
  refine bodyPost_ret (v:= .tuple #[_,.int .i64 0]) (results_cellv_tmp rfl _ _ _ _ _ rfl rfl hlv) rfl ?_
  exact HFIN.out
 ·obtain⟨hno,hb⟩:=hbad
  obtain⟨W5,hW5⟩: ∃W5,W5=w4.setCell ⟨W2.heap.size,0,none⟩ (.int .i64 6):=⟨_,rfl⟩
  have o5:Only [W2.heap.size] w4 W5:=by rw[hW5];exact(Only.refl _ _).setCell (Or.inl (by simp)) _
  have hh:=HW.out
  have z1:=hb.size
  have k5:=o5.blk ((hh.2.2.1.bel hh.2.2.2.1).bel hb) (by simp;omega)
  have hld:=k5.ld (P:=Tryz.prog) (ty:=32) Tryz.underlying32 rfl (by kernel_rfl)
  have hlv:=k5.lv (P:=Tryz.prog) (ty:=32) Tryz.underlying32 rfl (by kernel_rfl)
  have hst:=k5.st_same (P:=Tryz.prog) (ty:=32) (by kernel_rfl) (by kernel_rfl)
  have bel:Below w.heap.size w W5:=by
   have h2:Below w.heap.size w w4:=bx (bx hh.1 hh.2.2.2.1) hb
   exact h2.trans (o5.below (B:=w.heap.size) (fun x hx=>by simp at hx;omega) h2.size)
  have HFIN:Hid (LookPost bs w (.returned (.tuple #[.agg #[.slice none 0 0,.slice none 0 0,.slice none 0 0,.slice none 0 0,.int .i64 0,.int .i64 0],.int .i64 6])) W5):=hid ⟨bel,Or.inr ⟨hno,rfl⟩⟩
  rw[←hW5]
  clear hW5 o5 hh k5 bel hno hb z1
  go_wp2
  refine bodyPost_ret (v:= .tuple #[_,.int .i64 6]) (results_cellv_tmp rfl _ _ _ _ _ rfl rfl hlv) rfl ?_
  exact HFIN.out
end
end Go.Proofs.YtibiekfjbibpbaaGreat
