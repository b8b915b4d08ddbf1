import Derived.Test.YtjmaicckkkdjpaaGreatF29
import Derived.Test.YtjmaicckkkdjpaaGreatF34
import Derived.Test.YtjmaicckkkdjpaaGreatF45
set_option maxRecDepth 100000
set_option maxHeartbeats 4000000
set_option linter.unusedVariables false
set_option linter.unusedSimpArgs false
/- The law's map: what is laid, as the document has it. -/
namespace Go.Proofs.YtjmaicckkkdjpaaGreat
open Go.RowKit
theorem laLoadAt21 (v:Value):Instr.loadAt 86 v=ldM 86 v:=rfl
theorem la_ld21 {w:World} {b:Nat} {x:La} {kv:Value} (h:Blk w b 86 (laC x kv)):ldR Tryz.prog 86 (.pointer (some ⟨b,0,none⟩)) w= .ok (.agg (laC x kv)) w:=h.ld Tryz.underlying86 rfl (by simp only[laC];kernel_rfl)
def plL (ks:List Nat):RL:=ks.map fun k:Nat=>((k:Int),strOfNums (numL k),false)
def PlPs (w:World) (ks:List Nat) (e:Ending) (w':World):Prop:=
 ∃r u,e= .returned (ptrV r)∧RefIs w' r u (plL ks)∧w.heap.size≤r∧(∀k,u.ownBlock=some k→w.heap.size≤k)∧Below w.heap.size w w'
def PlI (r:Nat) (ks:List Nat) (W2 wr:World) (k:Nat):Prop:=
 ∃u,RefIs wr r u (plL (ks.take k))∧Only [r] W2 wr∧ ∀q,u.ownBlock=some q→W2.heap.size≤q
theorem PlI.step {r:Nat} {ks:List Nat} {W2 wr W w':World} {k n:Nat} {u v':Value} (hn:ks[k]?=some n) (ho:Only [r] W2 W) (hu: ∀q,u.ownBlock=some q→W2.heap.size≤q) {e:Ending} (h:RPost W r u (plL (ks.take k)++[((n:Int),strOfNums (numL n),false)]) 0 ⟨#[]⟩ [] e w'):(∃pv,e= .returned (.agg #[.int .i64 0,.string ⟨#[]⟩,pv]))∧PlI r ks W2 w' (k+1):=by
 obtain⟨v',pv,h1,h2,h3,h4,_,_⟩:=h
 refine⟨⟨pv,h1⟩,v',?_,ho.trans h3 (fun y hy=> ?_),fun q hq=> ?_⟩
 ·have e:plL (ks.take (k+1))=plL (ks.take k)++[((n:Int),strOfNums (numL n),false)]:=by
   rw[List.take_add_one,hn]
   unfold plL
   rw[List.map_append];rfl
  rw[e];exact h2
 ·rcases List.mem_cons.1 hy with h | h
  ·exact Or.inl (by simp[h])
  ·exact Or.inr (hu y (by simpa using h))
 ·rcases h4 q hq with h | h
  ·exact hu q h
  ·exact Nat.le_trans ho.size h
theorem strOf_size (xs:List Int):(strOfNums xs).size=xs.length:=by
 show(strOfNums xs).data.size=_
 rw[←Array.length_toList,strOfNums_data,List.length_map]
theorem Plain_z (x:La) (kv:Value) (xs:List Int) (hxs: ∀y∈xs,U64 y) (hl:xs.length≤40) (w:World) (hK:NumsAt .u64 w kv xs):
  Calls Tryz.prog 34 #[.agg (laC x kv)] w (PlPs w (risKeys xs)):=by
 obtain⟨ka,kc,rfl,hkc⟩:=hK
 obtain⟨m,hm⟩: ∃m,m=xs.length:=⟨_,rfl⟩
 have HKA:Hid (NumsAt .u64 w (.slice ka m kc) xs):=hid ⟨ka,kc,by rw[hm],hkc⟩
 rw[←hm]
 obtain⟨W1,hW1⟩: ∃W1,W1=(w.alloc (.cells (laC x (.slice ka m kc)) 86)).alloc (.cells #[.slice none 0 0] 163):=⟨_,rfl⟩
 have hb1:Below w.heap.size w W1:=by rw[hW1];exact ba (ba (Below.refl _ _) _) _
 have k1:Blk W1 w.heap.size 86 (laC x (.slice ka m kc)):=by rw[hW1];exact(Blk.new _ _ _).alloc _
 have r1:Blk W1 (w.heap.size+1) 163 #[.slice none 0 0]:=by
  have h:=Blk.new (w.alloc (.cells (laC x (.slice ka m kc)) 86)) 163 #[.slice none 0 0]
  rw[World.size_alloc] at h
  rw[hW1];exact h
 have c1:W1.cell? ⟨w.heap.size,1,none⟩=some (.slice ka m kc):=k1.cell 1
 have RZ:=hid (Rising_z xs 40 (.slice ka m kc) (by omega) (by omega) W1 (HKA.out.bel hb1))
 have HW1:=hid hW1
 have HX:=hid (⟨hxs,hl,hm,hb1,r1⟩:_∧_∧_∧_∧_)
 clear hW1 hb1 k1 r1 hxs hl hm hkc
 go_enter Tryz.func34,Tryz.ntmps34
 go_upto_region 2 with fail
 rw[show _=W1 from HW1.out.symm]
 go_wp2_with fail
 refine RZ.out.mono ?_
 rintro e W2 ⟨hb2,v,j,rfl,hj1,hj2,hj3,hrow⟩
 have hj:j=xs.length:=by have h8:=risTo_len xs j;have:=HX.out.2.1;omega
 subst hj
 rw[←risKeys_back HX.out.1,List.map_map,List.length_map] at hrow
 obtain⟨ks,hks⟩: ∃ks,ks=risKeys xs:=⟨_,rfl⟩
 have hkl:(risTo xs xs.length).length=ks.length:=by rw[hks,←risKeys_back HX.out.1,List.length_map]
 rw[←hks] at hrow
 obtain⟨q,hq⟩: ∃q,q=ks.length:=⟨_,rfl⟩
 rw[←hq] at hrow
 obtain⟨va,vc,rfl⟩:=row_form1 hrow
 have hq40:q≤40:=by have:=HX.out.2.1;have h8:=risTo_len xs xs.length;omega
 obtain⟨r,hr⟩: ∃r,r=w.heap.size+1:=⟨_,rfl⟩
 rw[←hr]
 have hr2:Blk W2 r 163 #[.slice none 0 0]:=by rw[hr];exact HX.out.2.2.2.2.bel hb2
 have HI0:Hid (PlI r ks W2 W2 0):=hid ⟨.slice none 0 0,⟨hr2,World.ownsRow_nil _ _ _ _,by simp[plL]⟩,Only.refl _ _,fun z hz=>by cases hz⟩
 have HK:Hid (ks=risKeys xs∧q=ks.length∧q≤40∧(∀n∈ks,n<18446744073709551616)):=hid ⟨hks,hq,hq40,by rw[hks];exact(risKeys_rise HX.out.1).2⟩
 have HRW:=hid hrow
 have HB2:=hid hb2
 have HRR:Hid (r=w.heap.size+1):=hid hr
 clear hj1 hj2 hj3 hrow hb2 hks hkl hq hr hr2 RZ c1
 go_wp2
 go_loopw [5] (fun iv wr=> ∃k:Nat,k≤q∧iv= .int .i64 k∧Hid (PlI r ks W2 wr k)) (fun iv _=>q- (intOf iv).toNat)
 case atStart=>exact⟨0,Nat.zero_le _,rfl,HI0⟩
 case round=>
  obtain⟨k,hk,rfl,hI⟩:=hrel
  clear HI0
  obtain⟨wA,rfl⟩: ∃z,z=wr:=⟨_,rfl⟩
  by_cases hlt:k<q
  ·have i1:(k:Int)< (q:Int):=by omega
   have i0:(0:Int)≤(k:Int):=by omega
   obtain⟨n,hn⟩: ∃n,ks[k]?=some n:=⟨_,List.getElem?_eq_getElem (by have:=HK.out.2.1;omega)⟩
   obtain⟨rb,cap,hv1,hlo,hcap,hgl,hcl⟩:=own_some HRW.out (by omega:0<q)
   injection hv1 with hv1 _ hv2
   subst hv1
   obtain⟨u,hR,hO,hu⟩:=hI.out
   have hrb:rb≠r:=by have:=HRR.out;have h3:=HX.out.2.2.2.2.lt;omega
   have c0:wA.cell? ⟨rb,k,none⟩=some (.int .u64 (n:Int)):=by
    have h1:=hcl k (.int .u64 (n:Int)) (by rw[List.getElem?_map,hn];rfl)
    rw[Nat.zero_add] at h1
    exact(hO.cell (p:=⟨rb,k,none⟩) hgl (by simpa using hrb)).trans h1
   have KC:Hid (∀wr k',PlI r ks W2 wr k'→wr.cell? ⟨rb,k,none⟩=some (.int .u64 (n:Int))):=hid fun wr k' hp=>by
    obtain⟨_,_,ho,_⟩:=hp
    have h1:=hcl k (.int .u64 (n:Int)) (by rw[List.getElem?_map,hn];rfl)
    rw[Nat.zero_add] at h1
    exact(ho.cell (p:=⟨rb,k,none⟩) hgl (by simpa using hrb)).trans h1
   have hn64:=HK.out.2.2.2 n (List.mem_of_getElem? hn)
   have VZ:=hid (fun W=>AValue_z n hn64 W)
   have DZ:Hid (∀W,Below wA.heap.size wA W→Calls Tryz.prog 36 #[.pointer (some ⟨r,0,none⟩),.agg #[.int .i64 1,.int .u64 (n:Int),.int .u64 0,.int .i64 0,.string (strOfNums (numL n))]] W fun e w'=>(∃pv,e= .returned (.agg #[.int .i64 0,.string ⟨#[]⟩,pv]))∧PlI r ks W2 w' (k+1)):=hid fun W hb=>by
    refine(RDo_put r u (n:Int) 0 0 (strOfNums (numL n)) (plL (ks.take k)) W (hR.bel hb) ?_ ?_).mono ?_
    ·unfold plL;rw[List.length_map,List.length_take];have:=HK.out.2.1;have:=HK.out.2.2.1;omega
    ·rw[strOf_size];have:=numL_20 hn64;omega
    ·intro e w' hp
     exact PlI.step (v':=u) (wr:=wA) hn (hO.trans (Only.of_below hb [r]) (fun y hy=>Or.inl hy)) hu hp
   have HLT:=hid hlt
   clear hI hR hO hu hcl hlo hgl hv2 hn hn64 hrb hlt hk hcap
   have kq:(q:Int)≤40:=by have:=HK.out.2.2.1;omega
   go_upto_region 6 with fail
   go_region_held3 (fun X=>X.cell? ⟨rb,k,none⟩=some (.int .u64 (n:Int))) (first | go_keep | (exact sC))
    (first | (go_at_call 17;refine(VZ.out _).mono ?_;rintro e w5 ⟨rfl,hb5⟩;have hw5:Below wA.heap.size wA w5:=bx (Below.drew (Below.refl _ wA)) hb5;have sC:w5.cell? ⟨rb,k,none⟩=some (.int .u64 (n:Int)):=cell_bel hw5 c0;have HW5:=hid hw5;clear hb5 hw5) | (go_at_call 36;refine(DZ.out _ (by first | exact HW5.out | exact HW5.out.drew)).mono ?_;rintro e w6 ⟨⟨pv,rfl⟩,hI6⟩;have sC:=KC.out w6 _ hI6;have H6:=hid hI6;clear hI6))
   all_goals
    go_wp2
    go_roundw
    case rel=>exact⟨k+1,by have:=HLT.out;omega,by go_num,H6⟩
    case measure=>simp[intOf];have:=HLT.out;omega
  ·obtain rfl:k=q:=by omega
   have i1: ¬(k:Int)< (k:Int):=by omega
   clear hlt hk
   go_wp2
   go_ret
   obtain⟨u,hR,hO,hu⟩:=hI.out
   rw[HK.out.2.1,List.take_length,HK.out.1] at hR
   have h1:=HX.out.2.2.2.1
   have h2:=HB2.out
   have hsz:w.heap.size≤W2.heap.size:=Nat.le_trans h1.size h2.size
   exact⟨r,u,rfl,hR,by have:=HRR.out;omega,fun z hz=>Nat.le_trans hsz (hu z hz),(h1.trans (h2.mono h1.size)).trans (hO.below (fun y hy=>by simp at hy;have:=HRR.out;omega) hsz)⟩
end Go.Proofs.YtjmaicckkkdjpaaGreat
/- The states of a scan over a built image may be; the law's whole over it. -/
namespace Go.Proofs.YtjmaicckkkdjpaaGreat
open Go.RowKit
theorem act_len8S (n:NodeA) (h:Int) (f:Bool):(activeN n h f).length≤8:=by
 have h1:=List.length_filter_le (actE h f) (validN n)
 have h2:=valid_len n
 have h3:(activeN n h f).length=((validN n).filter (actE h f)).length:=rfl
 omega
section
variable {slabs per lag K:Nat} {keys:List Nat} {bs:List Int}
theorem ScSt.ok (h:Built slabs keys per lag K bs) {c lo hi limit:Int} (hc:0≤c∧c≤64) (hlo:0≤lo) (hhi:hi<18446744073709551616) (hl1:1≤limit) (hl2:limit≤256) {n:Nat} {x:ScP} (hx:ScSt keys per lag K bs c lo hi limit n x):0<n∧ScOK (wordsOf bs) x:=by
 have gen: ∀{x:ScP},ScOn c lo hi limit x→ ¬(x.limit<1∨256<x.limit∨x.hi<x.lo)∧(0≤x.client∧x.client≤64)∧x.tries<4611686018427387904∧U64 x.lo:=fun hx=>by
  have h1:=hx.lolo
  refine⟨by rw[hx.limit',hx.hi'];omega,by rw[hx.client];exact hc,by rw[hx.tries];omega,⟨by omega,by omega⟩⟩
 have gr: ∀{left r:Nat} {x:ScP},ScLf keys per lag c lo hi limit left r x→x.want.length≤256∧x.got.length≤x.want.length∧(0≤x.at'∧x.at'≤1099511627776):=fun{left r x} hx=>by
  obtain⟨b1,b2,b3⟩:=h.adN_in (k:=0) (by omega) hx.hr
  have h1:=congrArg List.length hx.got'
  rw[List.length_map,List.length_take] at h1
  have h2:x.want.length≤8:=by
   rw[hx.want',List.length_take]
   have h8:=wsE_len8 h.toCore r
   have h7:=List.length_filter_le (rngB lo hi) (wsE keys per lag 0 r)
   omega
  refine⟨by omega,by omega,?_⟩
  rw[hx.adr];omega
 cases hx with
 | walk n left x y hx hu hy=>
  obtain⟨g1,g2,g3,g4⟩:=gen hx.toScOn
  refine⟨by omega,hx.done,hx.e,g1,g2,g3,by rw[hx.limit'];have:=hx.room;omega,fun y' hy'=> ?_,(fun _ h=>by rw[hu] at h;cases h),(fun _ h=>by rw[hu] at h;cases h),(fun _ h=>by rw[hu] at h;cases h)⟩
  rw[hu] at hy'
  injection hy' with hy'
  subst hy'
  rcases WkSt.step h g4.1 hy with⟨n',_,h2⟩ | h2
  ·exact⟨(hy.ok h hc g4).1,(h2.ok h hc g4).1.e0,fun ho=>by rw[h2.live] at ho;cases ho⟩
  ·obtain⟨e1,e2,_,r,hr,e3,e4,e5,e6,_,_⟩:=h2
   refine⟨(hy.ok h hc g4).1,e2,fun _=>⟨fun hp=> ?_,act_len8S _ _ _⟩⟩
   rw[e6,if_neg]
   rw[hp] at e5
   simpa using e5.symm
 | read n left r j x y hx hu hj hw hy=>
  obtain⟨g1,g2,g3,g4⟩:=gen hx.toScOn
  obtain⟨k1,k2,k3⟩:=gr hx
  refine⟨by omega,hx.done,hx.e,g1,g2,g3,by rw[hx.limit'];have:=hx.room;omega,(fun _ h=>by rw[hu] at h;cases h),fun y' hy'=> ?_,(fun _ h=>by rw[hu] at h;cases h),(fun _ h=>by rw[hu] at h;cases h)⟩
  rw[hu] at hy'
  injection hy' with hy'
  subst hy'
  have hj64:U64 (keys.getD j 0:Int):=by
   have h1:=h.kk (keys.getD j 0) (by rw[List.getD_eq_getElem?_getD,List.getElem?_eq_getElem hj];exact List.getElem_mem _)
   exact⟨by omega,by omega⟩
  exact⟨((GtSt.read (q:=(keys.getD j 0:Int)) r j n y hx.hr hj rfl hy).ok h hc hj64).2.read y rfl,(List.getElem?_eq_some_iff.1 hw).1,k1⟩
 | still n left r k x hx hu hg hk=>
  obtain⟨g1,g2,g3,g4⟩:=gen hx.toScOn
  obtain⟨k1,k2,k3⟩:=gr hx
  obtain⟨b1,b2,b3⟩:=h.adN_in (k:=0) (by omega) hx.hr
  refine⟨by omega,hx.done,hx.e,g1,g2,g3,by rw[hx.limit'];have:=hx.room;omega,(fun _ h=>by rw[hu] at h;cases h),(fun _ h=>by rw[hu] at h;cases h),fun y' hy'=> ?_,(fun _ h=>by rw[hu] at h;cases h)⟩
  rw[hu] at hy'
  injection hy' with hy'
  subst hy'
  refine⟨rfl,by rcases hk with⟨rfl,_⟩ | ⟨rfl,_⟩;exact Or.inl rfl;exact Or.inr rfl,?_,by show 0≤((adN keys per lag 0 r:Nat):Int)∧((adN keys per lag 0 r:Nat):Int)≤_;omega,k3⟩
  show inV (wordsOf bs) ((adN keys per lag 0 r:Nat)+8*k)
  rcases hk with⟨rfl,_⟩ | ⟨rfl,_⟩
  ·exact h.ad (k:=0) (by omega) hx.hr 16 (by omega) (by omega)
  ·exact h.ad (k:=0) (by omega) hx.hr 24 (by omega) (by omega)
 | last n left r i x hx hu hg hi3 hn=>
  obtain⟨g1,g2,g3,g4⟩:=gen hx.toScOn
  obtain⟨k1,k2,k3⟩:=gr hx
  refine⟨by omega,hx.done,hx.e,g1,g2,g3,by rw[hx.limit'];have:=hx.room;omega,(fun _ h=>by rw[hu] at h;cases h),(fun _ h=>by rw[hu] at h;cases h),(fun _ h=>by rw[hu] at h;cases h),fun l' hy'=> ?_⟩
  rw[hu] at hy'
  injection hy' with hy'
  subst hy'
  refine⟨rfl,hc,fun a ha=> ?_,k2,k1⟩
  have ha2:a∈linesL (adN keys per lag 0 r:Nat):=List.mem_of_mem_drop ha
  unfold linesL at ha2
  simp at ha2
  rcases ha2 with rfl | rfl | rfl
  ·have:=h.ad (k:=0) (by omega) hx.hr 0 (by omega) (by omega)
   simpa using this
  ·exact h.ad (k:=0) (by omega) hx.hr 64 (by omega) (by omega)
  ·exact h.ad (k:=0) (by omega) hx.hr 128 (by omega) (by omega)
end
theorem SWhole_z {slabs per lag K:Nat} {keys:List Nat} {bs:List Int} (h:Built slabs keys per lag K bs) {c lo hi limit:Int} (hc:0≤c∧c≤64) (hlo:0≤lo) (hhi:hi<18446744073709551616) (hl1:1≤limit) (hl2:limit≤256) (hle:lo≤hi) (L:Nat) (hL:L<4611686018427387904) (hn:nK keys per lag 0*lfN keys per lag K≤L)
  (si m g:Nat) (B:MB) (M:MemS) (KK:Nat) (f:List Nat) (hV:M.view=wordsOf bs) (w:World) (hin:WkIn w si m g B M KK f) (hs:ScIs w si m g (scNew c lo hi limit) f):
  Calls Tryz.prog 30 #[ptrV m,ptrV g,.int .i64 (L:Int)] w fun e w'=> ∃x' M' f',e= .returned (.bool true)∧ScAll (ScEnd keys lo hi limit) (wordsOf bs) si m g B KK M f w x' M' f' w':=by
 have hn0:0<nK keys per lag 0:=nRounds_pos _ _
 refine SLWhole_z (fun n x=>ScSt keys per lag K bs c lo hi limit n x) (ScEnd keys lo hi limit) (wordsOf bs) (fun n x hx=> ?_) L (1+45*tK keys per lag (K+1)+38+(nK keys per lag 0-1)*lfN keys per lag K) ?_ hL si m g B M KK (scNew c lo hi limit) f hV (ScSt.new c lo hi limit h.toCore hl1 hle) w hin hs
 ·obtain⟨h1,h2⟩:=hx.ok h hc hlo hhi hl1 hl2
  refine⟨h1,h2,?_⟩
  rcases hx.step h hlo hl1 hl2 with⟨n',a,b,d⟩ | hE
  ·exact Or.inl ⟨n',a,b,d⟩
  ·exact Or.inr ⟨hE,hE.done⟩
 ·refine Nat.le_trans (Nat.le_of_eq ?_) hn
  obtain⟨q,hq⟩: ∃q,nK keys per lag 0=q+1:=⟨nK keys per lag 0-1,by omega⟩
  rw[hq,Nat.add_sub_cancel,show(q+1)*lfN keys per lag K=q*lfN keys per lag K+lfN keys per lag K from Nat.succ_mul _ _]
  show 1+45*tK keys per lag (K+1)+38+q*lfN keys per lag K=q*lfN keys per lag K+(45*tK keys per lag (K+1)+39)
  omega
end Go.Proofs.YtjmaicckkkdjpaaGreat
/- A law's scan over its world: the world's memory as bytes; the surroundings that a scan wants; what stands behind it. -/
namespace Go.Proofs.YtjmaicckkkdjpaaGreat
open Go.RowKit
theorem leW_get: ∀{bs:List Int},(∀x∈bs,0≤x∧x<256)→ ∀{j:Nat} {c:Int},bs[j]?=some c→leW bs/256^j % 256=c
 | [],_,j,c,h=>by simp at h
 | x::bs,hb,0,c,h=>by
  have h1:=hb x (by simp)
  simp only[List.getElem?_cons_zero,Option.some.injEq] at h
  subst h
  rw[show leW (x::bs)=x+256*leW bs from rfl,Int.pow_zero,Int.ediv_one]
  omega
 | x::bs,hb,j+1,c,h=>by
  have h1:=hb x (by simp)
  have h2:=leW_get (bs:=bs) (fun y hy=>hb y (List.mem_cons_of_mem _ hy)) (j:=j) (c:=c) (by simpa using h)
  rw[show leW (x::bs)=x+256*leW bs from rfl,Int.pow_succ',←Int.ediv_ediv_of_nonneg (by omega),show(x+256*leW bs)/256=leW bs by omega]
  exact h2
theorem wB_leW {cs:List Int} (hb: ∀x∈cs,0≤x∧x<256) (h8:cs.length=8):wB (leW cs)=cs:=by
 apply List.ext_getElem?
 intro j
 by_cases hj:j<8
 ·obtain⟨c,hc⟩: ∃c,cs[j]?=some c:=⟨_,List.getElem?_eq_getElem (by omega)⟩
  rw[hc]
  unfold wB
  rw[List.getElem?_map,List.getElem?_range hj,Option.map_some,leW_get hb hc]
 ·rw[List.getElem?_eq_none (by rw[wB_len];omega),List.getElem?_eq_none (by omega)]
theorem bytes_words: ∀(q:Nat) {bs:List Int},(∀x∈bs,0≤x∧x<256)→bs.length=8*q→bytesW (wordsOf bs)=bs
 | 0,bs,_,h=>by
  have:bs=[]:=List.eq_nil_of_length_eq_zero (by omega)
  subst this;rfl
 | q+1,bs,hb,h=>by
  have hd:(bs.drop 8).length=8*q:=by rw[List.length_drop];omega
  have ih:=bytes_words q (bs:=bs.drop 8) (fun x hx=>hb x (List.mem_of_mem_drop hx)) hd
  have e:wordsOf bs=leW (bs.take 8)::wordsOf (bs.drop 8):=by
   unfold wordsOf
   rw[show bs.length/8=q+1 by omega,show(bs.drop 8).length/8=q by omega,List.range_succ_eq_map,List.map_cons,List.map_map]
   have h2:List.map (wAt bs∘Nat.succ) (List.range q)=List.map (wAt (bs.drop 8)) (List.range q):=List.map_congr_left fun i _=>by
    show leW ((bs.drop (8*(i+1))).take 8)=leW (((bs.drop 8).drop (8*i)).take 8)
    rw[List.drop_drop,show 8+8*i=8*(i+1) by omega]
   rw[h2]
   rfl
  rw[e]
  show wB (leW (bs.take 8))++bytesW (wordsOf (bs.drop 8))=bs
  rw[ih,wB_leW (fun x hx=>hb x (List.mem_of_mem_take hx)) (by rw[List.length_take];omega),List.take_append_drop]
theorem words_rng {bs:List Int} (hb: ∀x∈bs,0≤x∧x<256): ∀x∈wordsOf bs,0≤x∧x<18446744073709551616:=by
 intro x hx
 obtain⟨i,_,rfl⟩:=List.mem_map.1 hx
 have h1:=leW_bounds (bs:=(bs.drop (8*i)).take 8) (fun y hy=>hb y (List.mem_of_mem_drop (List.mem_of_mem_take hy)))
 have h2:(2:Int)^ (8*((bs.drop (8*i)).take 8).length)≤2^64:=by
  have h3:8*((bs.drop (8*i)).take 8).length≤64:=by rw[List.length_take];omega
  exact_mod_cast Nat.pow_le_pow_right (by omega) h3
 refine⟨h1.1,?_⟩
 show leW ((bs.drop (8*i)).take 8)<_
 omega
theorem arg_of_in {w:World} {p:Option Addr} {c:Nat} {bs:List Int} (h:BytesIn w p c bs) (hc:c≤maxLen) (h0:0<bs.length):ByArg w (.slice p bs.length c) bs:=by
 obtain⟨b,off,rfl,h1,h2⟩:=h.2.2 h0
 exact⟨h.2.1,Or.inr ⟨_,c,rfl,h.1,hc,Or.inr ⟨b,off,rfl,h1,h2⟩⟩⟩
theorem WorIs.inn {N0:Nat} {W X:World} {x:La} {xs:List Int} {wb g b nb:Nat} {R:AR} {lv:Value} {rows:List (List (Nat×NodeA))} {K si m:Nat} {MB:MB} (h:WorIs N0 W x xs wb g b nb R lv rows K si m MB) (hb:Below W.heap.size W X) {gp:Nat} {f:List Nat} (hg:W.heap.size≤gp) (hf: ∀z∈f,W.heap.size≤z):WkIn X si m gp MB (freshM (wordsOf R.bs)) 0 f:=by
 obtain⟨wc,N1,S,size,gs,sp,hO,_,_,_,_⟩:=h.ov
 have hm:=hO.mem.foot_lt
 have hl:=hO.sil
 refine⟨⟨hO.mem.only (Only.of_below hb []) (by simp),(fun L hL=>by cases hL),?_⟩,(by show St64 ⟨0,0,0,0⟩;unfold St64;simp),by omega,cell_bel hb hO.site,Nat.lt_of_lt_of_le hl hb.size,by omega,(fun hc=>by have:=hf _ hc;omega),fun hc=> ?_,fun hc=> ?_,fun y hy hc=> ?_⟩
 ·show 2≤(wordsOf R.bs).length
  unfold wordsOf
  rw[List.length_map,List.length_range,h.built.len]
  omega
 ·have:=(hO.low _ hc).2;have:=hO.lo.2.1;omega
 ·have:=hm _ hc;omega
 ·have:=hm _ hc;have:=hf _ hy;omega
theorem WorIs.after {N0:Nat} {W X Y:World} {x:La} {xs:List Int} {wb g b nb:Nat} {R:AR} {lv:Value} {rows:List (List (Nat×NodeA))} {K si m:Nat} {MB:MB} (h:WorIs N0 W x xs wb g b nb R lv rows K si m MB) (hb:Below W.heap.size W X) {ks:List Nat} (hk: ∀k∈ks,W.heap.size≤k∨k∈footM m MB (freshM (wordsOf R.bs))) (ho:Only ks X Y):
  (∃sp,Blk Y wb 92 #[ptrV g,ptrV si,ptrV m,sp])∧ArIs Y g b nb R lv∧Below N0 W Y∧ ∃N,LvsA Y N lv rows:=by
 obtain⟨wc,N1,S,size,gs,sp,hO,_,hgw,hbw,hN,N9,hLv⟩:=h.ov
 have hgl:=h.ar.blk.lt
 have hbl:=h.ar.by'.lt
 have hwl:=hO.blk.lt
 have hcs:=hO.bel.size
 have e1:wb∉ks:=fun hc=>by
  rcases hk _ hc with h1 | h1
  ·omega
  ·have:=(hO.low _ h1).2;have:=hO.lo.2.2;omega
 have e2: ∀y,y<wc.heap.size→y∉ks:=fun y hy hc=>by
  rcases hk _ hc with h1 | h1
  ·omega
  ·have:=(hO.low _ h1).1;omega
 refine⟨⟨sp,ho.blk (hO.blk.bel hb) e1⟩,⟨ho.blk (h.ar.blk.bel hb) (e2 _ hgw),ho.blk (h.ar.by'.bel hb) (e2 _ hbw),h.ar.ln,h.ar.big,h.ar.byt⟩,?_⟩
 have hs:=hb.size
 have key: ∀{n},n≤wc.heap.size→Below n X Y:=fun{n} hn=>ho.below (fun y hy=>by
  rcases hk _ hy with h1 | h1
  ·omega
  ·have:=(hO.low _ h1).1;omega) (by omega)
 refine⟨(hb.mono (by omega)).trans (key hN),N9,hLv.only (Only.of_below ((hO.bel.trans (hb.mono hcs)).trans (key (Nat.le_refl _))) []) (by simp)⟩
theorem WorIs.few {N0:Nat} {W:World} {x:La} {xs:List Int} {wb g b nb:Nat} {R:AR} {lv:Value} {rows:List (List (Nat×NodeA))} {K si m:Nat} {MB:MB} (h:WorIs N0 W x xs wb g b nb R lv rows K si m MB):
  nodesN rows rows.length=tK (risKeys xs) x.per.toNat x.lag.toNat (K+1)∧tK (risKeys xs) x.per.toNat x.lag.toNat (K+1)≤80∧rows.length≤1000∧ ∀row∈rows,row.length≤100000:=by
 have ht:=h.built.tin
 have hs:=h.ok
 unfold LaOK at hs
 have h80:tK (risKeys xs) x.per.toNat x.lag.toNat (K+1)≤80:=by omega
 have hk:=h.built.k15
 rw[h.rws]
 refine⟨nodes_tK _ _ _ _,h80,by rw[List.length_map,List.length_range];omega,fun row hr=> ?_⟩
 obtain⟨j,hj,rfl⟩:=List.mem_map.1 hr
 have hj:=List.mem_range.1 hj
 have h1:=stk_le (risKeys xs) x.per.toNat x.lag.toNat (show j+1≤K+1 by omega)
 rw[tK_succ] at h1
 unfold rowK
 rw[rowS_len]
 have h2:nRounds x.per.toNat (stk (uN (risKeys xs)) x.per.toNat x.lag.toNat (ents0 (risKeys xs)) j).2=nK (risKeys xs) x.per.toNat x.lag.toNat j:=rfl
 omega
end Go.Proofs.YtjmaicckkkdjpaaGreat
/- The law's small world of three keys. -/
namespace Go.Proofs.YtjmaicckkkdjpaaGreat
open Go.RowKit
theorem bldT_stop:((AR.new 3).vals [3,5,7] 3).1.lvStop 2 0 ((AR.new 3).vals [3,5,7] 3).2 1:=Or.inl (by
 have h:(((((AR.new 3).vals [3,5,7] 3).1.lvls 2 0 ((AR.new 3).vals [3,5,7] 3).2 1).1.levelRow 1 2 ((((AR.new 3).vals [3,5,7] 3).1.lvls 2 0 ((AR.new 3).vals [3,5,7] 3).2 1).2.2)).length==1)=true:=by kernel_rfl
 simpa using h)
theorem bld_three: ¬BldNo 3 [3,5,7] 2 0:=by
 have h0:(AR.new 3).valsRoomy [3,5,7] 3:=fun i hi=>by
  rcases(by omega:i=0∨i=1∨i=2) with rfl | rfl | rfl
  ·have h:((((AR.new 3).vals [3,5,7] 0).1.newValue.2==0):Bool)=false:=by kernel_rfl
   simpa using h
  ·have h:((((AR.new 3).vals [3,5,7] 1).1.newValue.2==0):Bool)=false:=by kernel_rfl
   simpa using h
  ·have h:((((AR.new 3).vals [3,5,7] 2).1.newValue.2==0):Bool)=false:=by kernel_rfl
   simpa using h
 have h1:((AR.new 3).vals [3,5,7] 3).1.lvRoom 2 0 ((AR.new 3).vals [3,5,7] 3).2 0:=fun k hk=>by
  have hn:nRounds 2 ((((AR.new 3).vals [3,5,7] 3).1.lvls 2 0 ((AR.new 3).vals [3,5,7] 3).2 0).2.2)=2:=by kernel_rfl
  rw[hn] at hk
  rcases(by omega:k=0∨k=1) with rfl | rfl
  ·have h:((((((AR.new 3).vals [3,5,7] 3).1.lvls 2 0 ((AR.new 3).vals [3,5,7] 3).2 0).1.rounds 0 2 ((((AR.new 3).vals [3,5,7] 3).1.lvls 2 0 ((AR.new 3).vals [3,5,7] 3).2 0).2.2) 0).1.newNode.2==0):Bool)=false:=by kernel_rfl
   simpa using h
  ·have h:((((((AR.new 3).vals [3,5,7] 3).1.lvls 2 0 ((AR.new 3).vals [3,5,7] 3).2 0).1.rounds 0 2 ((((AR.new 3).vals [3,5,7] 3).1.lvls 2 0 ((AR.new 3).vals [3,5,7] 3).2 0).2.2) 1).1.newNode.2==0):Bool)=false:=by kernel_rfl
   simpa using h
 have h2:((AR.new 3).vals [3,5,7] 3).1.lvRoom 2 0 ((AR.new 3).vals [3,5,7] 3).2 1:=fun k hk=>by
  have hn:nRounds 2 ((((AR.new 3).vals [3,5,7] 3).1.lvls 2 0 ((AR.new 3).vals [3,5,7] 3).2 1).2.2)=1:=by kernel_rfl
  rw[hn] at hk
  obtain rfl:k=0:=by omega
  have h:((((((AR.new 3).vals [3,5,7] 3).1.lvls 2 0 ((AR.new 3).vals [3,5,7] 3).2 1).1.rounds 1 2 ((((AR.new 3).vals [3,5,7] 3).1.lvls 2 0 ((AR.new 3).vals [3,5,7] 3).2 1).2.2) 0).1.newNode.2==0):Bool)=false:=by kernel_rfl
  simpa using h
 rintro(h | ⟨k,h3,h4⟩)
 ·exact h h0
 ·rcases k with _ | _ | k
  ·exact h4 h1
  ·exact h4 h2
  ·exact h3 1 (by omega) bldT_stop
theorem ris357:risKeys [3,5,7]=[3,5,7]:=by kernel_rfl
theorem ans0:ansS [3,5,7] 0 9 5=[(3,strOfNums [51]),(5,strOfNums [53]),(7,strOfNums [55])]:=by kernel_rfl
theorem ans1:ansS [3,5,7] 5 9 1=[(5,strOfNums [53])]:=by kernel_rfl
theorem ans2:ansS [3,5,7] 6 6 1=[]:=by kernel_rfl
theorem WorIs.bound {N0:Nat} {W X:World} {x:La} {xs:List Int} {wb g b nb:Nat} {R:AR} {lv:Value} {rows:List (List (Nat×NodeA))} {K si m:Nat} {MB:MB} (h:WorIs N0 W x xs wb g b nb R lv rows K si m MB) (p:Nat) (hp:p≤1000) (hB: ∃sp,Blk X wb 92 #[ptrV g,ptrV si,ptrV m,sp]) (hA:ArIs X g b nb R lv) {N:Nat} (hL:LvsA X N lv rows):
  Calls Tryz.prog 31 #[ptrV wb,.int .i64 (p:Int)] X fun e w'=>e= .returned (.int .i64 ((nK (risKeys xs) x.per.toNat x.lag.toNat 0*(70*tK (risKeys xs) x.per.toNat x.lag.toNat (K+1)+40)+17*p:Nat):Int))∧w'=X:=by
 obtain⟨sp,hB⟩:=hB
 obtain⟨n1,n2,n3,n4⟩:=h.few
 have hr0:rows[0]?=some (rowK (uN (risKeys xs)) x.per.toNat x.lag.toNat (ents0 (risKeys xs)) 0):=by rw[h.rws,List.getElem?_map,List.getElem?_range (by omega)];rfl
 have:=SLBound_z p hp _ wb g b nb N R lv (ptrV si) (ptrV m) sp rows hr0 (by rw[n1];omega) X hB hA hL n3 n4
 rw[n1] at this
 have e:(rowK (uN (risKeys xs)) x.per.toNat x.lag.toNat (ents0 (risKeys xs)) 0).length=nK (risKeys xs) x.per.toNat x.lag.toNat 0:=by unfold rowK;exact rowS_len _ _ _ _ _
 rw[e] at this
 exact this
theorem WorIs.whole {N0:Nat} {W X:World} {x:La} {xs:List Int} {wb g b nb:Nat} {R:AR} {lv:Value} {rows:List (List (Nat×NodeA))} {K si m:Nat} {MB:MB} (h:WorIs N0 W x xs wb g b nb R lv rows K si m MB) (p:Nat) (hp:p≤1000) {c lo hi limit:Int} (hc:0≤c∧c≤64) (hlo:0≤lo) (hhi:hi<18446744073709551616) (hl1:1≤limit) (hl2:limit≤256) (hle:lo≤hi)
  (sg:Nat) (M:MemS) (f:List Nat) (hV:M.view=wordsOf R.bs) (hin:WkIn X si m sg MB M 0 f) (hs:ScIs X si m sg (scNew c lo hi limit) f):
  Calls Tryz.prog 30 #[ptrV m,ptrV sg,.int .i64 ((nK (risKeys xs) x.per.toNat x.lag.toNat 0*(70*tK (risKeys xs) x.per.toNat x.lag.toNat (K+1)+40)+17*p:Nat):Int)] X fun e w'=> ∃x' M' f',e= .returned (.bool true)∧ScAll (ScEnd (risKeys xs) lo hi limit) (wordsOf R.bs) si m sg MB 0 M f X x' M' f' w':=by
 obtain⟨n1,n2,n3,n4⟩:=h.few
 have hn0:nK (risKeys xs) x.per.toNat x.lag.toNat 0≤tK (risKeys xs) x.per.toNat x.lag.toNat (K+1):=by
  have h1:=stk_le (risKeys xs) x.per.toNat x.lag.toNat (show 0+1≤K+1 by omega)
  rw[tK_succ] at h1
  omega
 have hb1:nK (risKeys xs) x.per.toNat x.lag.toNat 0*(70*tK (risKeys xs) x.per.toNat x.lag.toNat (K+1)+40)≤80*5640:=Nat.mul_le_mul (by omega) (by omega)
 exact SWhole_z h.built hc hlo hhi hl1 hl2 hle _ (by omega) (Nat.le_trans (Nat.mul_le_mul (Nat.le_refl _) (by show 45*_+39≤_;omega)) (Nat.le_add_right _ _)) si m sg MB M 0 f hV X hin hs
end Go.Proofs.YtjmaicckkkdjpaaGreat
/- Scans side by side over the law's world. -/
namespace Go.Proofs.YtjmaicckkkdjpaaGreat
open Go.RowKit
structure ScWd (W0:World) (si m:Nat) (MB:MB) (V:List Int) (M:MemS) (W:World):Prop where
 mem:Mems W m MB M 0
 st:St64 M.st
 sc:W.cell? ⟨si,0,none⟩=some (ptrV m)
 sim:si∉footM m MB M
 view:M.view=V
 quiet:SQ V M
 foot: ∀k∈footM m MB M,W0.heap.size≤k∨k∈footM m MB (freshM V)
 since: ∃ks,(∀k∈ks,W0.heap.size≤k∨k∈footM m MB (freshM V))∧Only ks W0 W
structure ScAt (W0:World) (si m:Nat) (MB:MB) (M:MemS) (sg:Nat) (x:ScP) (f:List Nat) (W:World):Prop where
 is:ScIs W si m sg x f
 far: ∀z∈sg::f,z∉footM m MB M
 sin:si∉sg::f
 lo: ∀z∈sg::f,W0.heap.size≤z
theorem ScWd.bel {W0 W W':World} {si m:Nat} {MB:MB} {V:List Int} {M:MemS} (h:ScWd W0 si m MB V M W) (hb:Below W.heap.size W W'):ScWd W0 si m MB V M W':=by
 obtain⟨ks,h1,h2⟩:=h.since
 exact⟨h.mem.only (Only.of_below hb []) (by simp),h.st,cell_bel hb h.sc,h.sim,h.view,h.quiet,h.foot,ks,h1,h2.trans (Only.of_below hb []) (by simp)⟩
theorem ScAt.bel {W0 W W':World} {si m:Nat} {MB:MB} {M:MemS} {sg:Nat} {x:ScP} {f:List Nat} (h:ScAt W0 si m MB M sg x f W) (hb:Below W.heap.size W W'):ScAt W0 si m MB M sg x f W':=⟨h.is.only (Only.of_below hb []) (by simp) (by simp),h.far,h.sin,h.lo⟩
theorem ScWd.inn {W0 W:World} {si m:Nat} {MB:MB} {V:List Int} {M:MemS} (h:ScWd W0 si m MB V M W) {sg:Nat} {x:ScP} {f:List Nat} (ha:ScAt W0 si m MB M sg x f W):WkIn W si m sg MB M 0 f:=
 ⟨h.mem,h.st,by omega,h.sc,World.block_lt_of_cell? _ _ h.sc,fun e=>ha.sin (by simp[e]),fun e=>ha.sin (by simp[e]),h.sim,ha.far _ (by simp),fun y hy=>ha.far y (by simp[hy])⟩
def ScBy (W0:World) (si m:Nat) (MB:MB) (M M':MemS) (sg:Nat) (f f':List Nat) (W w':World):Prop:=
 ∀sg2 x2 f2,ScAt W0 si m MB M sg2 x2 f2 W→(∀z∈sg2::f2,z∉sg::f)→ScAt W0 si m MB M' sg2 x2 f2 w'∧ ∀z∈sg2::f2,z∉sg::f'
section
variable {N0:Nat} {W0:World} {x:La} {xs:List Int} {wb g b nb:Nat} {R:AR} {lv:Value} {rows:List (List (Nat×NodeA))} {K si m:Nat} {MB:MB}
theorem WorIs.start (h:WorIs N0 W0 x xs wb g b nb R lv rows K si m MB):ScWd W0 si m MB (wordsOf R.bs) (freshM (wordsOf R.bs)) W0:=by
 have hi:=h.inn (Below.refl _ _) (gp:=W0.heap.size) (f:=[]) (Nat.le_refl _) (by simp)
 exact⟨hi.mem,hi.st,hi.sc,hi.sim,rfl,⟨rfl,rfl⟩,fun k hk=>Or.inr hk,[],by simp,Only.refl _ _⟩
theorem WorIs.now (h:WorIs N0 W0 x xs wb g b nb R lv rows K si m MB) {M:MemS} {W:World} (hw:ScWd W0 si m MB (wordsOf R.bs) M W):(∃sp,Blk W wb 92 #[ptrV g,ptrV si,ptrV m,sp])∧ArIs W g b nb R lv∧Below N0 W0 W∧ ∃N,LvsA W N lv rows:=by
 obtain⟨ks,h1,h2⟩:=hw.since
 exact h.after (Below.refl _ _) h1 h2
theorem WorIs.boundAt (h:WorIs N0 W0 x xs wb g b nb R lv rows K si m MB) {M:MemS} {W:World} (hw:ScWd W0 si m MB (wordsOf R.bs) M W) (p:Nat) (hp:p≤1000):
  Calls Tryz.prog 31 #[ptrV wb,.int .i64 (p:Int)] W fun e w'=>e= .returned (.int .i64 ((nK (risKeys xs) x.per.toNat x.lag.toNat 0*(70*tK (risKeys xs) x.per.toNat x.lag.toNat (K+1)+40)+17*p:Nat):Int))∧w'=W:=by
 obtain⟨h1,h2,_,N,h3⟩:=h.now hw
 exact h.bound p hp h1 h2 h3
theorem ScWd.new {V:List Int} {M:MemS} {W:World} (hw:ScWd W0 si m MB V M W) (hl:W0.heap.size≤W.heap.size) (c lo hi limit:Int):
  Calls Tryz.prog 29 #[ptrV si,.int .i64 c,.int .u64 lo,.int .u64 hi,.int .i64 limit] W fun e w'=> ∃sg f,e= .returned (ptrV sg)∧ScWd W0 si m MB V M w'∧ScAt W0 si m MB M sg (scNew c lo hi limit) f w'∧(∀z∈sg::f,W.heap.size≤z)∧Below W.heap.size W w':=by
 refine(ScNew_z si m c lo hi limit W).mono ?_
 rintro e w' ⟨sg,f,rfl,h1,h2,h3,h4⟩
 have hz: ∀z∈sg::f,W.heap.size≤z:=fun z hz=>(List.mem_cons.1 hz).elim (fun e=>e▸h1) (h3 z)
 have hs:=World.block_lt_of_cell? _ _ hw.sc
 refine⟨sg,f,rfl,hw.bel h4,⟨h2,fun z hq hc=> ?_,fun hc=> ?_,fun z hq=>Nat.le_trans hl (hz z hq)⟩,hz,h4⟩
 ·have:=hw.mem.is.foot_lt z hc;have:=hz z hq;omega
 ·have h9:=hz si hc;have hs:si<W.heap.size:=hs;omega
theorem WorIs.done (h:WorIs N0 W0 x xs wb g b nb R lv rows K si m MB) {M:MemS} {W:World} (hw:ScWd W0 si m MB (wordsOf R.bs) M W) (p:Nat) (hp:p≤1000) {c lo hi limit:Int} (hc:0≤c∧c≤64) (hlo:0≤lo) (hhi:hi<18446744073709551616) (hl1:1≤limit) (hl2:limit≤256) (hle:lo≤hi)
  {sg:Nat} {f:List Nat} (ha:ScAt W0 si m MB M sg (scNew c lo hi limit) f W) (hl:W0.heap.size≤W.heap.size):
  Calls Tryz.prog 30 #[ptrV m,ptrV sg,.int .i64 ((nK (risKeys xs) x.per.toNat x.lag.toNat 0*(70*tK (risKeys xs) x.per.toNat x.lag.toNat (K+1)+40)+17*p:Nat):Int)] W fun e w'=> ∃x' M' f',e= .returned (.bool true)∧ScEnd (risKeys xs) lo hi limit x'∧ScWd W0 si m MB (wordsOf R.bs) M' w'∧ScAt W0 si m MB M' sg x' f' w'∧ScBy W0 si m MB M M' sg f f' W w'∧W.heap.size≤w'.heap.size:=by
 refine(h.whole p hp hc hlo hhi hl1 hl2 hle sg M f hw.view (hw.inn ha) ha.is).mono ?_
 rintro e w' ⟨x',M',f',rfl,hA⟩
 obtain⟨ks,k1,k2⟩:=hw.since
 have hft: ∀k∈footM m MB M',W0.heap.size≤k∨k∈footM m MB (freshM (wordsOf R.bs)):=fun k hk=>(hA.foot k hk).elim (hw.foot k) (fun h=>Or.inl (Nat.le_trans hl h))
 have hlf: ∀z∈sg::f',W0.heap.size≤z:=fun z hz=>(List.mem_cons.1 hz).elim (fun e=>ha.lo z (by simp[e])) (fun hz=>(hA.fresh z hz).elim (fun h=>ha.lo z (by simp[h])) (fun h=>Nat.le_trans hl h))
 refine⟨x',M',f',rfl,hA.fin,⟨hA.inn.mem,hA.inn.st,hA.inn.sc,hA.inn.sim,hA.view,hA.quiet hw.quiet,hft,ks++(sg::f++footM m MB M),fun k hk=> ?_,(k2.mono (fun y hy=>by simp[hy])).trans hA.only (fun y hy=>Or.inl (List.mem_append_right _ hy))⟩,⟨hA.is,fun z hz=> ?_,fun hz=> ?_,hlf⟩,fun sg2 x2 f2 h2 hd=> ?_,hA.only.size⟩
 ·rcases List.mem_append.1 hk with h1 | h1
  ·exact k1 k h1
  ·rcases List.mem_append.1 h1 with h1 | h1
   ·exact Or.inl (ha.lo k h1)
   ·exact hw.foot k h1
 ·rcases List.mem_cons.1 hz with rfl | hz
  ·exact hA.inn.gm
  ·exact hA.inn.fm z hz
 ·rcases List.mem_cons.1 hz with hz | hz
  ·exact hA.inn.sig hz
  ·exact hA.inn.sif hz
 ·have zl: ∀z∈sg2::f2,z<W.heap.size:=fun z hz=>(List.mem_cons.1 hz).elim (fun e=>e▸h2.is.lt.1) (h2.is.lt.2 z)
  have no: ∀z∈sg2::f2,z∉sg::f++footM m MB M:=fun z hz hc=>(List.mem_append.1 hc).elim (hd z hz) (h2.far z hz)
  refine⟨⟨h2.is.only hA.only (no _ (by simp)) (fun z hz=>no z (by simp[hz])),fun z hz hc=> ?_,h2.sin,h2.lo⟩,fun z hz hc=> ?_⟩
  ·rcases hA.foot z hc with h1 | h1
   ·exact h2.far z hz h1
   ·have:=zl z hz;omega
  ·rcases List.mem_cons.1 hc with e | hc
   ·exact hd z hz (by simp[e])
   ·rcases hA.fresh z hc with h1 | h1
    ·exact hd z hz (by simp[h1])
    ·have:=zl z hz;omega
end
end Go.Proofs.YtjmaicckkkdjpaaGreat
