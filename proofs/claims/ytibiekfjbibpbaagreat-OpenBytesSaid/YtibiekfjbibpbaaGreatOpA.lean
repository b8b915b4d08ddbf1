/- An opening begun: the addresses of all words, gone over; open.New. -/
import Derived.Test.YtibiekfjbibpbaaGreatPmX
import Derived.Test.YtibiekfjbibpbaaGreatRef5
import Derived.Test.YtibiekfjbibpbaaGreatRepM
set_option maxRecDepth 100000
set_option maxHeartbeats 8000000
set_option linter.unusedVariables false
set_option linter.unusedSimpArgs false
namespace Go.Proofs.YtibiekfjbibpbaaGreat
open Go.RowKit Go.Shelf
attribute [local go_sem] Oper.semAt_some appM2_run
attribute [local go_sem ↓ high] append_shut2
def adrV (x:Nat):Value:= .int .u64 (8*(x:Int))
def adL (xs:List Nat):List Int:=xs.map fun(x:Nat)=>8*(x:Int)
theorem Addr1_in (n q:Nat) (hq:q≤131072) (F:List Nat) (N0 l Bn:Nat) (J Jx:List (Fin q)→World→Prop) (W:World)
  (hBn:Bn<N0) (hBn':Bn∉F) (hN:N0≤W.heap.size)
  (hY: ∀pre (x:Fin q) W1,J pre W1→pre.length<q→YieldAt Fence.wide (n-1) Tryz.prog l #[adrV x.val] W1 fun e W'=>
   (e= .returned (.bool true)∧J (pre++[x]) W'∧KeepN F N0 W1 W')∨(e= .returned (.bool false)∧Jx (pre++[x]) W'))
  (hn:W.cell? ⟨Bn,0,none⟩=some (.int .i64 ((8*q:Nat):Int))) (h0:J [] W):
  CallsIn Fence.wide n Tryz.prog 172 #[.func (.yield l) #[] #[],.pointer (some ⟨Bn,0,none⟩)] W fun e W'=>(∃v,e= .returned v)∧
   ((∃ys,ys=List.finRange q∧J ys W')∨(∃pre,pre<+:List.finRange q∧Jx pre W')):=by
 refine callsIn_of_wp Tryz.func172 rfl trivial ?_ rfl
 simp only[Tryz.ntmps172,List.size_toArray,List.length_cons,List.length_nil,Nat.reduceAdd,Nat.reduceSub,Array.replicate_succ,Array.replicate_zero,List.push_toArray,List.append_toArray,List.nil_append,List.cons_append]
 obtain⟨Z,hZ⟩: ∃Z,Z=8*q:=⟨_,rfl⟩
 rw[←hZ] at hn
 have HZ:=hid hZ
 have HN':=hid hn
 clear hn hZ
 gi_wp2_with fail
 gi_loopw [3] (fun i wr=> ∃k:Nat,k≤q∧i= .int .i64 (8*k:Nat)∧J ((List.finRange q).take k) wr∧KeepN F N0 W wr) (fun i _=>(8*q- (intOf i).toNat))
 case atStart=>exact⟨0,by omega,rfl,h0,KeepN.refl _ _ _⟩
 case round=>
  obtain⟨i,hi,rfl,hJi,hK⟩:=hrel
  have x2:=(hK.cell (p:=⟨Bn,0,none⟩) hBn hBn').trans HN'.out
  by_cases hlt:i<q
  ·have i1:(0:Int)≤((8*i:Nat):Int):=by omega
   have i2:((8*i:Nat):Int)< (Z:Int):=by have:=HZ.out;omega
   have i3:IntKind.u64.wrap (8*(i:Int))=8*(i:Int):=by rw[IntKind.wrap_u64];have:=HZ.out;omega
   obtain⟨fn,tmps,assign,body,hy,hR⟩:=hY _ (⟨i,hlt⟩:Fin q) _ hJi (by simp;omega)
   have hT:(List.finRange q).take i++[⟨i,hlt⟩]=(List.finRange q).take (i+1):=by rw[List.take_succ_eq_append_getElem (by simpa using hlt)];simp
   have HR:=hid hR
   clear hR hJi
   unfold adrV at hy
   gi_wp2_with fail
   refine⟨fun h=>by simp[Fence.wide] at h,HR.out.mono ?_⟩
   rintro e W3 (⟨rfl,hJ3,hk3⟩ | ⟨rfl,hJx3⟩)
   ·rw[hT] at hJ3
    have K3:=hid (hK.trans hk3)
    clear hK hk3 x2 hy
    gi_wp2
    go_roundw
    case rel=>exact⟨i+1,by omega,by go_num,hJ3,K3.out⟩
    case measure=>simp[intOf];omega
   ·rw[hT] at hJx3
    gi_wp2
    refine bodyPost_ret (results_none rfl _ _ _) rfl ?_
    exact⟨⟨_,rfl⟩,.inr ⟨_,List.take_prefix _ _,hJx3⟩⟩
  ·have hJ5:J (List.finRange q) wr:=by rw[List.take_of_length_le (by simp;omega)] at hJi;exact hJi
   obtain rfl:i=q:=by omega
   have i2: ¬((8*i:Nat):Int)< (Z:Int):=by have:=HZ.out;omega
   gi_wp2
   go_end0
   first | exact⟨⟨_,rfl⟩,.inl hJ5⟩ | exact .inl hJ5
theorem Addr_stops (n q:Nat) (hq:q≤131072) (F:List Nat) (N0 Bn:Nat) (w:World) (hBn:Bn<N0) (hBn':Bn∉F) (hN:N0≤w.heap.size)
  (hn:w.cell? ⟨Bn,0,none⟩=some (.int .i64 ((8*q:Nat):Int))):
  SeqStopsK Fence.wide n Tryz.prog 172 #[.pointer (some ⟨Bn,0,none⟩)] (fun x:Fin q=> #[adrV x.val]) (KeepN F N0) (fun ys=>ys=List.finRange q) (fun pre=>pre<+:List.finRange q) q w:=by
 intro l J Jx W hW hJ _ hY h0
 have h2:=(hW.cell (p:=⟨Bn,0,none⟩) (World.block_lt_of_cell? w _ hn)).trans hn
 exact Addr1_in n q hq F N0 l Bn J Jx W hBn hBn' (Nat.le_trans hN hW.size) hY h2 h0
theorem Addr_make (n:Nat) (z:Int) (w:World):
  CallsIn Fence.wide n Tryz.prog 108 #[.int .i64 z] w fun e w'=>e= .returned (.func (.func 172) #[] #[.pointer (some ⟨w.heap.size,0,none⟩)])∧
   w'=w.alloc (.cells #[.int .i64 z] 3):=by
 refine callsIn_of_wp Tryz.func108 rfl trivial ?_ rfl
 simp only[Tryz.ntmps108,List.size_toArray,List.length_cons,List.length_nil,Nat.reduceAdd,Nat.reduceSub,Array.replicate_succ,Array.replicate_zero,List.push_toArray,List.append_toArray,List.nil_append,List.cons_append]
 gi_wp2
 go_ret
 exact⟨rfl,rfl⟩
def stepV (o:Nat):Value:= .func (.func 110) #[.pointer (some ⟨o,0,none⟩)] #[]
def opnC (m:Nat) (tv wv st:Value) (dn:Bool) (bad:Int) (pv rv fv kv:Value) (h nn:Int):Array Value:=
 #[ptrV m,tv,wv,st,.bool dn,.int .i64 bad,pv,rv,fv,kv,.int .i64 h,.int .i64 nn]
def nilS:Value:= .slice none 0 0
structure OpI (w:World) (o m N0:Nat) (w5:World) (xs:List Nat) (v:Value) (W:World):Prop where
 blk:Blk W o 212 (opnC m v nilS .nilFunc false 0 nilS nilS nilS nilS 0 0)
 own:rowU W N0 v (adL xs)
 bel:Below w.heap.size w W
 keep:KeepN [o] N0 w5 W
theorem OpI.own_from {w:World} {o m N0 B:Nat} {w5:World} (q:Nat) (h1:w.heap.size≤B) (h2:N0≤B) (h3:N0≤w5.heap.size):OwnFrom B (fun(xs:List (Fin q)) W=> ∃v,OpI w o m N0 w5 (xs.map (·.val)) v W):=by
 rintro xs W W' row ⟨v,h⟩ hg hr
 have hr': ∀r,row=some r→ ∃o:Obj,W.heap[r]?=some o∧o.isCells=false:=fun r e=>(hr r e).2
 exact⟨v,grown_blk h.blk hg hr',grown_own h.own hg hr',⟨hg.os.trans h.bel.os,hg.tape.trans h.bel.tape,hg.output.trans h.bel.output,Nat.le_trans h.bel.size hg.size,fun k hk=>(hg.block k (Nat.lt_of_lt_of_le hk h.bel.size) (fun e=>by have:=(hr k e.symm).1;omega)).trans (h.bel.block k hk)⟩,
  ⟨Nat.le_trans h.keep.size hg.size,fun k hk hn=>by
   by_cases hkw:k<W.heap.size
   ·exact(hg.block k hkw (fun e=>by have:=(hr k e.symm).1;omega)).trans (h.keep.block k hk hn)
   ·exact absurd (Nat.lt_of_lt_of_le hk (Nat.le_trans h3 h.keep.size)) hkw⟩⟩
theorem own_lo {w:World} {base base':Nat} {e:TypeId} {size n:Nat} {v:Value} {xs:List Value} (h:w.ownsRow base e size v n xs) (hb:base'≤base):w.ownsRow base' e size v n xs:=
 ⟨h.1,h.2.imp id fun⟨g,cap,cur,h1,h2,h3⟩=>⟨g,cap,cur,h1,Nat.le_trans hb h2,h3⟩⟩
theorem own_blockU {w:World} {base:Nat} {v:Value} {xs:List Int} (h:rowU w base v xs): ∀k,v.ownBlock=some k→base≤k∧ ∃o:Obj,w.heap[k]?=some o∧o.isCells=true:=own_block (e:=51) (size:=1) h
theorem OpI.step {w W w9 w5:World} {o m N0:Nat} {xs:List Nat} {v v9:Value} {x:Nat} (hI:OpI w o m N0 w5 xs v W) (hm:w.heap.size≤o) (hmN:o<N0) (hN:N0≤W.heap.size)
  (ho:rowU w9 N0 v9 (adL xs++[8*(x:Int)])) (hb:Only v.ownBlock.toList W w9):
  KeepsFrom N0 W (w9.setCell ⟨o,1,none⟩ v9)∧KeepN [o] N0 W (w9.setCell ⟨o,1,none⟩ v9)∧OpI w o m N0 w5 (xs++[x]) v9 (w9.setCell ⟨o,1,none⟩ v9):=by
 have hob:=own_blockU hI.own
 have hm9:o∉v.ownBlock.toList:=fun hc=>by
  have:=(hob o (by simpa[Option.mem_toList] using hc)).1
  omega
 have hblk9:=hb.blk hI.blk hm9
 have hall:Only (o::v.ownBlock.toList) W (w9.setCell ⟨o,1,none⟩ v9):=(hb.mono (fun x hx=>List.mem_cons_of_mem _ hx)).setCell (Or.inl (by simp)) _
 have hk:KeepN [o] N0 W (w9.setCell ⟨o,1,none⟩ v9):=⟨hall.size,fun k hk hn=>hall.block k (Nat.lt_of_lt_of_le hk hN) (fun hc=>by
  rcases List.mem_cons.1 hc with h | h
  ·exact hn (by simp[h])
  ·have:=(hob k (by simpa[Option.mem_toList] using h)).1
   omega)⟩
 refine⟨⟨hall.size,fun k ob hB hk ho=> ?_⟩,hk,⟨hblk9.set_ 1 _,?_,?_,hI.keep.trans hk⟩⟩
 ·refine(hall.block k (Array.getElem?_eq_some_iff.1 hk).1 (fun hc=> ?_)).trans hk
  rcases List.mem_cons.1 hc with h | h
  ·omega
  ·obtain⟨_,o',h1,h2⟩:=hob k (by simpa[Option.mem_toList] using h)
   rw[hk] at h1;cases h1;rw[ho] at h2;cases h2
 ·have h1:rowU (w9.setCell ⟨o,1,none⟩ v9) N0 v9 (adL xs++[8*(x:Int)]):=
   ((Only.refl [o] w9).setCell (Or.inl (by simp)) _).own ho (fun k hk hc=>by
    have:=(own_blockU ho k hk).1
    simp at hc
    omega)
  simpa[adL] using h1
 ·refine⟨hall.os.trans hI.bel.os,hall.tape.trans hI.bel.tape,hall.output.trans hI.bel.output,Nat.le_trans hI.bel.size hall.size,fun k hk=> ?_⟩
  refine(hall.block k (Nat.lt_of_lt_of_le hk hI.bel.size) (fun hc=> ?_)).trans (hI.bel.block k hk)
  rcases List.mem_cons.1 hc with h | h
  ·omega
  ·have:=(hob k (by simpa[Option.mem_toList] using h)).1
   omega
theorem run_store_fnO {P:Program} {w:World} {a:Addr} {m:Mode} (f:Fn) (x y:Array Value):(store a (.func f x y) m).run P w=stored P w a (.func f x y) m:=run_store P w a _ m rfl
attribute [local go_sem] run_store_fnO
theorem ONew_in (m:Nat) (B:MB) (q:Nat) (s:St4) (hq0:0<q) (hqb:q≤131072) (w:World) (h:Blk w m 206 (memC B q s)):
  CallsIn Fence.wide 5 Tryz.prog 30 #[ptrV m] w fun e W'=> ∃(o:Nat) (v:Value),e= .returned (.pointer (some ⟨o,0,none⟩))∧w.heap.size≤o∧o<W'.heap.size∧
   Blk W' o 212 (opnC m v nilS (stepV o) false 0 nilS nilS nilS nilS 0 0)∧rowU W' w.heap.size v (adL (List.range q))∧v.ownBlock≠some o∧Below w.heap.size w W':=by
 have HQ0:=hid hq0
 have HQ:=hid hqb
 have HH:=hid h
 clear hq0 hqb h
 refine callsIn_of_wp_marks Tryz.func30 rfl trivial ?_ rfl
 simp only[Tryz.ntmps30,List.size_toArray,List.length_cons,List.length_nil,Nat.reduceAdd,Nat.reduceSub,Array.replicate_succ,Array.replicate_zero,List.push_toArray,List.append_toArray,List.nil_append,List.cons_append]
 gi_wp2_with fail
 refine⟨trivial,(callsIn_wide.2 (Size_m m B q s HQ0.out HQ.out _ ((HH.out.alloc _).alloc _))).mono ?_⟩
 rintro e w1 ⟨rfl,rfl⟩
 gi_wp2_with fail
 refine⟨trivial,(Addr_make _ _ _).mono ?_⟩
 rintro e w1 ⟨rfl,rfl⟩
 gi_wp2_with fail
 obtain⟨o,ho⟩: ∃o,o=w.heap.size:=⟨_,rfl⟩
 obtain⟨pv,hpv⟩: ∃pv,pv=w.heap.size+1:=⟨_,rfl⟩
 obtain⟨Bn,hBn⟩: ∃Bn,Bn=w.heap.size+1+1:=⟨_,rfl⟩
 generalize hW5:World.alloc _ (Obj.cells #[Value.int IntKind.i64 _] 3)=W5
 rw[←hBn,←hpv,←ho]
 have hsz:W5.heap.size=w.heap.size+3:=by rw[←hW5];simp
 have hbel:Below w.heap.size w W5:=by rw[←hW5];exact ba (ba (ba (Below.refl _ _) _) _) _
 have hblk:Blk W5 o 212 (opnC m nilS nilS .nilFunc false 0 nilS nilS nilS nilS 0 0):=by
  rw[←hW5,ho]
  exact((Blk.new w 212 _).alloc _).alloc _
 have hpc:W5.cell? ⟨pv,0,none⟩=some (.pointer (some ⟨o,0,none⟩)):=by rw[←hW5,hpv,ho];clear hW5;go_simp
 have hnc:W5.cell? ⟨Bn,0,none⟩=some (.int .i64 ((8*q:Nat):Int)):=by rw[←hW5,hBn];clear hW5;go_simp
 have hN0:Bn<W5.heap.size∧Bn∉ [o]:=by simp;omega
 have HB:=hid (⟨ho,hpv,hBn,hsz⟩:_∧_∧_∧_)
 have HBEL:=hid hbel
 have HBLK:=hid hblk
 have HPC:=hid hpc
 have HN0:=hid hN0
 clear ho hpv hBn hsz hbel hblk hpc hW5 hN0
 refine wpIn_rangeFunc_ownG rfl (by omega) (gf:=172) (lb:= #[.pointer (some ⟨Bn,0,none⟩)]) rfl trivial (enters_of Tryz.func172 (by kernel_rfl) rfl)
  (Addr_stops 4 q HQ.out [o] W5.heap.size Bn W5 HN0.out.1 HN0.out.2 (Nat.le_refl _) hnc) KeepN.trans ?hKb (Below.refl _ _) (fun _=>rfl)
  (fun(xs:List (Fin q)) W=> ∃v,OpI w o m W5.heap.size W5 (xs.map (·.val)) v W) (fun _ _ _=>False) (OpI.own_from q HBEL.out.size (Nat.le_refl _) (Nat.le_refl _)) (fun _ _ _ _ _ h=>h.elim)
  ?h0
  (fun x=>{ tmps:= #[ptrV m,undef,.pointer none,.pointer (some ⟨pv,0,none⟩),adrV x.val,ptrV m,.agg #[ptrV m,.slice none 0 0,.slice none 0 0,.nilFunc,.bool false,.int .i64 0,.slice none 0 0,.slice none 0 0,.slice none 0 0,.slice none 0 0,.int .i64 0,.int .i64 0],.pointer (some ⟨o,0,none⟩),ptrV m,.int .i64 ((8*q:Nat):Int),.func (.func 172) #[] #[.pointer (some ⟨Bn,0,none⟩)],adrV x.val,undef,undef,undef,undef,undef,undef,undef,undef,undef,undef,undef,undef,undef,undef,undef,undef],defers:=[] }) ?assign ?body ?done ?stop
 case hKb=>
  intro W l o o' hl ho hc hw
  exact KeepN.putObj (KeepN.refl _ _ _) hl _
 case h0=>exact⟨_,HBLK.out,⟨rfl,Or.inl ⟨rfl,rfl⟩⟩,HBEL.out,KeepN.refl _ _ _⟩
 case assign=>
  intro l x W K hK
  unfold adrV at hK ⊢
  gi_wp2
  exact hK
 case body=>
  rintro l pre x W ⟨v,hI⟩ hlt
  have hxq:=x.isLt
  have hbpv:pv<W5.heap.size∧pv∉ [o]∧o<W5.heap.size:=by have:=HB.out;simp;omega
  have z0:W.cell? ⟨pv,0,none⟩=some (.pointer (some ⟨o,0,none⟩)):=(hI.keep.cell (p:=⟨pv,0,none⟩) hbpv.1 hbpv.2.1).trans HPC.out
  have hW0:W5.heap.size≤W.heap.size:=hI.keep.size
  obtain⟨xi,hxi⟩: ∃xi,xi=8*(x.val:Int):=⟨_,rfl⟩
  obtain⟨va,vc,w9,hrun,hr9,ho9,_⟩:=addr_push (W:=W.drew) (((Only.refl [] W).drew).own hI.own (by simp)) hW0 xi (by simp[adL];have:=HQ.out;omega)
  obtain⟨pl,hpl⟩: ∃pl,pl=(adL (pre.map (·.val))).length+1:=⟨_,rfl⟩
  rw[←hpl] at hrun hr9
  have hob:=own_blockU hI.own
  have hno: ∀k,k∈v.ownBlock.toList→k≠o∧k≠pv:=fun k hk=>by
   have h1:=(hob k (by simpa using hk)).1
   have:=HB.out
   omega
  have hW9:Only v.ownBlock.toList W w9:=((Only.refl _ W).drew).trans ho9 (fun k hk=>Or.inl hk)
  have hst:=OpI.step hI (by have:=HB.out;omega) hbpv.2.2 hW0 (by rw[←hxi];exact hr9) hW9
  have hb9:=hW9.blk hI.blk (fun hc=>(hno _ hc).1 rfl)
  have zm:W.drew.cell? ⟨o,1,none⟩=some v:=hI.blk.cell 1
  have zma:(W.drew.alloc (.cells #[.int .u64 xi] 51)).cell? ⟨o,1,none⟩=some v:=(hI.blk.drew.alloc _).cell 1
  have zm9:w9.cell? ⟨o,1,none⟩=some v:=hb9.cell 1
  have zf9:=hb9.frozen 1
  have zp:W.drew.cell? ⟨pv,0,none⟩=some (.pointer (some ⟨o,0,none⟩)):=z0
  have zpa:(W.drew.alloc (.cells #[.int .u64 xi] 51)).cell? ⟨pv,0,none⟩=some (.pointer (some ⟨o,0,none⟩)):=ca _ zp
  have zpd:(W.alloc (.cells #[.int .u64 xi] 51)).drew.cell? ⟨pv,0,none⟩=some (.pointer (some ⟨o,0,none⟩)):=zpa
  have zmd:(W.alloc (.cells #[.int .u64 xi] 51)).drew.cell? ⟨o,1,none⟩=some v:=zma
  have zp9:w9.cell? ⟨pv,0,none⟩=some (.pointer (some ⟨o,0,none⟩)):=(World.cell?_of_block (w:=W) (a:=⟨pv,0,none⟩) (hW9.block pv (by have:=hbpv.1;omega) (fun hc=>(hno _ hc).2 rfl))).trans z0
  have hrun2:appRun2 Tryz.prog #[30,30] 30 #[v,.slice (some ⟨W.heap.size,0,none⟩) 1 1] ((W.alloc (.cells #[.int .u64 xi] 51)).drew)= .ok (.slice va pl vc) w9:=hrun
  clear hrun
  have HST:=hid hst
  have HX:=hid hxi
  unfold adrV
  rw[←hxi]
  clear hst hxi hI hob hno hW9 hb9 hr9 ho9 hpl hlt hxq hbpv hW0 hnc
  gi_wp2_with fail
  refine share (X:= ?X) (fun key=> ?_) ?_
  rotate_left
  ·gi_region_with fail
   all_goals exact key.out
  gi_wp2
  exact⟨HST.out.1,HST.out.2.1,⟨_,by rw[List.map_append];exact HST.out.2.2⟩⟩
 case done=>
  rintro D xs W hD rfl ⟨v,hI⟩ hK
  have hbpv:pv<W5.heap.size∧pv∉ [o]∧o<W5.heap.size:=by have:=HB.out;simp;omega
  have z0:W.cell? ⟨pv,0,none⟩=some (.pointer (some ⟨o,0,none⟩)):=(hI.keep.cell (p:=⟨pv,0,none⟩) hbpv.1 hbpv.2.1).trans HPC.out
  have zf:=hI.blk.frozen 3
  have z3:W.cell? ⟨o,3,none⟩=some .nilFunc:=hI.blk.cell 3
  have hl:o<W.heap.size:=hI.blk.lt
  have hDo:D≠o:=by have:=hbpv.2.2;omega
  have hb2:Blk (W.setCell ⟨o,3,none⟩ (stepV o)) o 212 (opnC m v nilS (stepV o) false 0 nilS nilS nilS nilS 0 0):=hI.blk.set_ 3 _
  have hoW:Only [o] W (W.setCell ⟨o,3,none⟩ (stepV o)):=(Only.refl _ _).setCell (Or.inl (by simp)) _
  have hkV:(W.setCell ⟨o,3,none⟩ (stepV o)).heap[D]?=some (.deferred (some [])):=(hoW.block D (Array.getElem?_eq_some_iff.1 hK).1 (by simpa using hDo)).trans hK
  have hob:=own_blockU hI.own
  have hr2:rowU (W.setCell ⟨o,3,none⟩ (stepV o)) w.heap.size v (adL (List.range q)):=by
   have h1:=hoW.own (hI.own) (fun k hk hc=>by have:=(hob k hk).1;simp at hc;omega)
   have e:(List.finRange q).map (·.val)=List.range q:=by apply List.ext_getElem?;intro i;by_cases hi:i<q<;>simp[hi]
   rw[e] at h1
   exact own_lo h1 (by have:=HBEL.out.size;omega)
  have hbW:Below w.heap.size w (W.setCell ⟨o,3,none⟩ (stepV o)):=hoW.below (fun x hx=>by simp at hx;have:=HB.out;omega) hI.bel.size |>fun h=>hI.bel.trans h
  have hno:v.ownBlock≠some o:=fun e=>by have:=(hob o e).1;omega
  have hpm:pv≠o:=by have:=HB.out;omega
  have oD:Only [D] (W.setCell ⟨o,3,none⟩ (stepV o)) ((W.setCell ⟨o,3,none⟩ (stepV o)).putObj D (.deferred none)):=Only.putObj (Only.refl _ _) (Or.inl (by simp)) _
  have hr3:=oD.own hr2 (fun k hk hc=>by
   obtain⟨_,ob,h1,h2⟩:=own_blockU hr2 k hk
   rw[List.mem_singleton.1 hc,hkV] at h1;cases h1;cases h2)
  have hDw:w.heap.size≤D:=by have:=HB.out;omega
  have HF:=hid (⟨Nat.lt_of_lt_of_le hl (Nat.le_trans hoW.size oD.size),oD.blk hb2 (by simp;exact fun e=>hDo e.symm),hr3,hno,hbW.trans (oD.below (fun x hx=>by rw[List.mem_singleton.1 hx];exact hDw) hbW.size)⟩:_∧_∧_∧_∧_)
  have HKV:=hid hkV
  clear hb2 hr2 hno hbW hkV hoW hob hDo hI hK hnc oD hr3 hDw
  gi_wp2_with fail
  refine⟨by simp,.inl ⟨_,_,rfl,run_takeDeferred HKV.out,?_⟩⟩
  refine⟨_,?_,o,v,rfl,by have:=HB.out.1;omega,HF.out⟩
  simp[results,Tryz.results30,go_sem]
 case stop=>exact fun _ _ _ _ _ _ h=>h.elim
end Go.Proofs.YtibiekfjbibpbaaGreat
