import Derived.Deep.QuietTactic
import Derived.BigQuiet
import Derived.Test.YtjmaicckkkdjpaaGreatS34
import Derived.Test.YtjmaicckkkdjpaaGreatS31
set_option maxRecDepth 100000
set_option maxHeartbeats 4000000
set_option linter.unusedVariables false
set_option linter.unusedSimpArgs false
/- The document's Do, its scan. -/
namespace Go.Proofs.YtjmaicckkkdjpaaGreat
open Go.RowKit
end Go.Proofs.YtjmaicckkkdjpaaGreat
/- The law's map: what is laid, as the document has it. -/
namespace Go.Proofs.YtjmaicckkkdjpaaGreat
open Go.RowKit
theorem laLoadAt21 (v:Value):Instr.loadAt 86 v=ldM 86 v:=rfl
theorem la_ld21 {w:World} {b:Nat} {x:La} {kv:Value} (h:Blk w b 86 (laC x kv)):ldR Tryz.prog 86 (.pointer (some ⟨b,0,none⟩)) w= .ok (.agg (laC x kv)) w:=h.ld Tryz.underlying86 rfl (by simp only[laC];kernel_rfl)
def plL (ks:List Nat):RL:=ks.map fun k:Nat=>((k:Int),strOfNums (numL k),false)
def PlPs (w:World) (ks:List Nat) (e:Ending) (w':World):Prop:=
 ∃r u,e= .returned (ptrV r)∧RefIs w' r u (plL ks)∧w.heap.size≤r∧(∀k,u.ownBlock=some k→w.heap.size≤k)∧Below w.heap.size w w'
def PlI (r:Nat) (ks:List Nat) (W2 wr:World) (k:Nat):Prop:=
 ∃u,RefIs wr r u (plL (ks.take k))∧Only [r] W2 wr∧ ∀q,u.ownBlock=some q→W2.heap.size≤q
theorem PlI.step {r:Nat} {ks:List Nat} {W2 wr W w':World} {k n:Nat} {u v':Value} (hn:ks[k]?=some n) (ho:Only [r] W2 W) (hu: ∀q,u.ownBlock=some q→W2.heap.size≤q) {e:Ending} (h:RPost W r u (plL (ks.take k)++[((n:Int),strOfNums (numL n),false)]) 0 ⟨#[]⟩ [] e w'):(∃pv,e= .returned (.agg #[.int .i64 0,.string ⟨#[]⟩,pv]))∧PlI r ks W2 w' (k+1):=by
 obtain⟨v',pv,h1,h2,h3,h4,_,_⟩:=h
 refine⟨⟨pv,h1⟩,v',?_,ho.trans h3 (fun y hy=> ?_),fun q hq=> ?_⟩
 ·have e:plL (ks.take (k+1))=plL (ks.take k)++[((n:Int),strOfNums (numL n),false)]:=by
   rw[List.take_add_one,hn]
   unfold plL
   rw[List.map_append];rfl
  rw[e];exact h2
 ·rcases List.mem_cons.1 hy with h | h
  ·exact Or.inl (by simp[h])
  ·exact Or.inr (hu y (by simpa using h))
 ·rcases h4 q hq with h | h
  ·exact hu q h
  ·exact Nat.le_trans ho.size h
theorem strOf_size (xs:List Int):(strOfNums xs).size=xs.length:=by
 show(strOfNums xs).data.size=_
 rw[←Array.length_toList,strOfNums_data,List.length_map]
theorem Plain_z (x:La) (kv:Value) (xs:List Int) (hxs: ∀y∈xs,U64 y) (hl:xs.length≤40) (w:World) (hK:NumsAt .u64 w kv xs):
  Calls Tryz.prog 34 #[.agg (laC x kv)] w (PlPs w (risKeys xs)):=by
 obtain⟨ka,kc,rfl,hkc⟩:=hK
 obtain⟨m,hm⟩: ∃m,m=xs.length:=⟨_,rfl⟩
 have HKA:Hid (NumsAt .u64 w (.slice ka m kc) xs):=hid ⟨ka,kc,by rw[hm],hkc⟩
 rw[←hm]
 obtain⟨W1,hW1⟩: ∃W1,W1=(w.alloc (.cells (laC x (.slice ka m kc)) 86)).alloc (.cells #[.slice none 0 0] 163):=⟨_,rfl⟩
 have hb1:Below w.heap.size w W1:=by rw[hW1];exact ba (ba (Below.refl _ _) _) _
 have k1:Blk W1 w.heap.size 86 (laC x (.slice ka m kc)):=by rw[hW1];exact(Blk.new _ _ _).alloc _
 have r1:Blk W1 (w.heap.size+1) 163 #[.slice none 0 0]:=by
  have h:=Blk.new (w.alloc (.cells (laC x (.slice ka m kc)) 86)) 163 #[.slice none 0 0]
  rw[World.size_alloc] at h
  rw[hW1];exact h
 have c1:W1.cell? ⟨w.heap.size,1,none⟩=some (.slice ka m kc):=k1.cell 1
 have RZ:=hid (Rising_z xs 40 (.slice ka m kc) (by omega) (by omega) W1 (HKA.out.bel hb1))
 have HW1:=hid hW1
 have HX:=hid (⟨hxs,hl,hm,hb1,r1⟩:_∧_∧_∧_∧_)
 clear hW1 hb1 k1 r1 hxs hl hm hkc
 go_enter Tryz.func34,Tryz.ntmps34
 go_upto_region 2 with fail
 rw[show _=W1 from HW1.out.symm]
 go_wp2_with fail
 refine RZ.out.mono ?_
 rintro e W2 ⟨hb2,v,j,rfl,hj1,hj2,hj3,hrow⟩
 have hj:j=xs.length:=by have h8:=risTo_len xs j;have:=HX.out.2.1;omega
 subst hj
 rw[←risKeys_back HX.out.1,List.map_map,List.length_map] at hrow
 obtain⟨ks,hks⟩: ∃ks,ks=risKeys xs:=⟨_,rfl⟩
 have hkl:(risTo xs xs.length).length=ks.length:=by rw[hks,←risKeys_back HX.out.1,List.length_map]
 rw[←hks] at hrow
 obtain⟨q,hq⟩: ∃q,q=ks.length:=⟨_,rfl⟩
 rw[←hq] at hrow
 obtain⟨va,vc,rfl⟩:=row_form1 hrow
 have hq40:q≤40:=by have:=HX.out.2.1;have h8:=risTo_len xs xs.length;omega
 obtain⟨r,hr⟩: ∃r,r=w.heap.size+1:=⟨_,rfl⟩
 rw[←hr]
 have hr2:Blk W2 r 163 #[.slice none 0 0]:=by rw[hr];exact HX.out.2.2.2.2.bel hb2
 have HI0:Hid (PlI r ks W2 W2 0):=hid ⟨.slice none 0 0,⟨hr2,World.ownsRow_nil _ _ _ _,by simp[plL]⟩,Only.refl _ _,fun z hz=>by cases hz⟩
 have HK:Hid (ks=risKeys xs∧q=ks.length∧q≤40∧(∀n∈ks,n<18446744073709551616)):=hid ⟨hks,hq,hq40,by rw[hks];exact(risKeys_rise HX.out.1).2⟩
 have HRW:=hid hrow
 have HB2:=hid hb2
 have HRR:Hid (r=w.heap.size+1):=hid hr
 clear hj1 hj2 hj3 hrow hb2 hks hkl hq hr hr2 RZ c1
 go_wp2
 go_loopw [5] (fun iv wr=> ∃k:Nat,k≤q∧iv= .int .i64 k∧Hid (PlI r ks W2 wr k)) (fun iv _=>q- (intOf iv).toNat)
 case atStart=>exact⟨0,Nat.zero_le _,rfl,HI0⟩
 case round=>
  obtain⟨k,hk,rfl,hI⟩:=hrel
  clear HI0
  obtain⟨wA,rfl⟩: ∃z,z=wr:=⟨_,rfl⟩
  by_cases hlt:k<q
  ·have i1:(k:Int)< (q:Int):=by omega
   have i0:(0:Int)≤(k:Int):=by omega
   obtain⟨n,hn⟩: ∃n,ks[k]?=some n:=⟨_,List.getElem?_eq_getElem (by have:=HK.out.2.1;omega)⟩
   obtain⟨rb,cap,hv1,hlo,hcap,hgl,hcl⟩:=own_some HRW.out (by omega:0<q)
   injection hv1 with hv1 _ hv2
   subst hv1
   obtain⟨u,hR,hO,hu⟩:=hI.out
   have hrb:rb≠r:=by have:=HRR.out;have h3:=HX.out.2.2.2.2.lt;omega
   have c0:wA.cell? ⟨rb,k,none⟩=some (.int .u64 (n:Int)):=by
    have h1:=hcl k (.int .u64 (n:Int)) (by rw[List.getElem?_map,hn];rfl)
    rw[Nat.zero_add] at h1
    exact(hO.cell (p:=⟨rb,k,none⟩) hgl (by simpa using hrb)).trans h1
   have KC:Hid (∀wr k',PlI r ks W2 wr k'→wr.cell? ⟨rb,k,none⟩=some (.int .u64 (n:Int))):=hid fun wr k' hp=>by
    obtain⟨_,_,ho,_⟩:=hp
    have h1:=hcl k (.int .u64 (n:Int)) (by rw[List.getElem?_map,hn];rfl)
    rw[Nat.zero_add] at h1
    exact(ho.cell (p:=⟨rb,k,none⟩) hgl (by simpa using hrb)).trans h1
   have hn64:=HK.out.2.2.2 n (List.mem_of_getElem? hn)
   have VZ:=hid (fun W=>AValue_z n hn64 W)
   have DZ:Hid (∀W,Below wA.heap.size wA W→Calls Tryz.prog 36 #[.pointer (some ⟨r,0,none⟩),.agg #[.int .i64 1,.int .u64 (n:Int),.int .u64 0,.int .i64 0,.string (strOfNums (numL n))]] W fun e w'=>(∃pv,e= .returned (.agg #[.int .i64 0,.string ⟨#[]⟩,pv]))∧PlI r ks W2 w' (k+1)):=hid fun W hb=>by
    refine(RDo_put r u (n:Int) 0 0 (strOfNums (numL n)) (plL (ks.take k)) W (hR.bel hb) ?_ ?_).mono ?_
    ·unfold plL;rw[List.length_map,List.length_take];have:=HK.out.2.1;have:=HK.out.2.2.1;omega
    ·rw[strOf_size];have:=numL_20 hn64;omega
    ·intro e w' hp
     exact PlI.step (v':=u) (wr:=wA) hn (hO.trans (Only.of_below hb [r]) (fun y hy=>Or.inl hy)) hu hp
   have HLT:=hid hlt
   clear hI hR hO hu hcl hlo hgl hv2 hn hn64 hrb hlt hk hcap
   have kq:(q:Int)≤40:=by have:=HK.out.2.2.1;omega
   go_upto_region 6 with fail
   go_region_held3 (fun X=>X.cell? ⟨rb,k,none⟩=some (.int .u64 (n:Int))) (first | go_keep | (exact sC))
    (first | (go_at_call 17;refine(VZ.out _).mono ?_;rintro e w5 ⟨rfl,hb5⟩;have hw5:Below wA.heap.size wA w5:=bx (Below.drew (Below.refl _ wA)) hb5;have sC:w5.cell? ⟨rb,k,none⟩=some (.int .u64 (n:Int)):=cell_bel hw5 c0;have HW5:=hid hw5;clear hb5 hw5) | (go_at_call 36;refine(DZ.out _ (by first | exact HW5.out | exact HW5.out.drew)).mono ?_;rintro e w6 ⟨⟨pv,rfl⟩,hI6⟩;have sC:=KC.out w6 _ hI6;have H6:=hid hI6;clear hI6))
   all_goals
    go_wp2
    go_roundw
    case rel=>exact⟨k+1,by have:=HLT.out;omega,by go_num,H6⟩
    case measure=>simp[intOf];have:=HLT.out;omega
  ·obtain rfl:k=q:=by omega
   have i1: ¬(k:Int)< (k:Int):=by omega
   clear hlt hk
   go_wp2
   go_ret
   obtain⟨u,hR,hO,hu⟩:=hI.out
   rw[HK.out.2.1,List.take_length,HK.out.1] at hR
   have h1:=HX.out.2.2.2.1
   have h2:=HB2.out
   have hsz:w.heap.size≤W2.heap.size:=Nat.le_trans h1.size h2.size
   exact⟨r,u,rfl,hR,by have:=HRR.out;omega,fun z hz=>Nat.le_trans hsz (hu z hz),(h1.trans (h2.mono h1.size)).trans (hO.below (fun y hy=>by simp at hy;have:=HRR.out;omega) hsz)⟩
end Go.Proofs.YtjmaicckkkdjpaaGreat
/- The law's bound of a scan's steps. -/
namespace Go.Proofs.YtjmaicckkkdjpaaGreat
open Go.RowKit
theorem SLBound_z (p:Nat) (hp:p≤1000) (row0:List (Nat×NodeA)) (wb g b n N:Nat) (R:AR) (lv s1 s2 s3:Value) (rows:List (List (Nat×NodeA))) (hr0:rows[0]?=some row0) (hT:nodesN rows rows.length≤100000) (w:World) (hw:Blk w wb 92 #[ptrV g,s1,s2,s3]) (ha:ArIs w g b n R lv) (hl:LvsA w N lv rows) (hr:rows.length≤1000) (hs: ∀row∈rows,row.length≤100000):
  Calls Tryz.prog 31 #[ptrV wb,.int .i64 (p:Int)] w fun e w'=>e= .returned (.int .i64 ((row0.length*(70*nodesN rows rows.length+40)+17*p:Nat):Int))∧w'=w:=by
 obtain⟨vs,q1,q2,q3⟩:=hl
 obtain⟨p,cc,rfl⟩:=row_form1 q2
 obtain⟨q,hq⟩: ∃q,q=rows.length:=⟨_,rfl⟩
 have c0:w.cell? ⟨wb,0,none⟩=some (ptrV g):=hw.cell 0
 have c7:w.cell? ⟨g,7,none⟩=some (.slice p q cc):=by rw[hq];exact ha.blk.cell 7
 have HP:=hid (⟨q1,q2,q3,hq,hr,hs⟩:_∧_∧_∧_∧_∧_)
 have HR0:=hid (⟨hr0,hs _ (List.mem_of_getElem? hr0)⟩:_∧_)
 obtain⟨T,hTT⟩: ∃T,T=nodesN rows rows.length:=⟨_,rfl⟩
 rw[←hTT] at hT ⊢
 have HT:=hid (⟨hT,hTT,hp⟩:_∧_∧_)
 clear hw ha q1 q2 q3 hq hr hs hr0 hT hTT hp
 go_enter Tryz.func31,Tryz.ntmps31
 go_wp2
 go_loopw [5,6] (fun s i wr=> ∃k:Nat,k≤q∧i= .int .i64 (k:Int)∧s= .int .i64 ((nodesN rows k:Nat):Int)∧wr=w∧Hid (nodesN rows k≤100000*k)) (fun s i _=>q- (intOf i).toNat)
 case atStart=>exact⟨0,Nat.zero_le _,rfl,rfl,rfl,hid (by simp[nodesN])⟩
 case round=>
  obtain⟨k,hk,rfl,rfl,rfl,hA⟩:=hrel
  by_cases hkn:k<q
  ·obtain⟨row,hrow⟩: ∃row,rows[k]?=some row:=⟨_,List.getElem?_eq_getElem (by rw[←HP.out.2.2.2.1];exact hkn)⟩
   obtain⟨v,hv,h1,h2⟩:=HP.out.2.2.1 k row hrow
   obtain⟨rg,cap,hv1,hlo,hcap,hgl,hcl⟩:=own_some HP.out.2.1 (by rw[←HP.out.2.2.2.1];omega)
   injection hv1 with hv1 _ hv2
   subst hv1
   obtain⟨rp,rcap,hrv⟩: ∃rp rcap,v= .slice rp row.length rcap:=row_form1 h2
   subst hrv
   have c1:=hcl k _ hv
   rw[Nat.zero_add] at c1
   have i0:(0:Int)≤(k:Int):=by omega
   have i1:(k:Int)< (q:Int):=by omega
   have hrl:=HP.out.2.2.2.2.2 row (List.mem_of_getElem? hrow)
   have i2:IntKind.i64.wrap ((k:Int)+1)=(k:Int)+1:=by rw[IntKind.wrap_i64];have:=HP.out.2.2.2.1;have:=HP.out.2.2.2.2.1;omega
   have i3:IntKind.i64.wrap (((nodesN rows k:Nat):Int)+(row.length:Int))=((nodesN rows k:Nat):Int)+(row.length:Int):=by rw[IntKind.wrap_i64];have:=hA.out;have:=HP.out.2.2.2.1;have:=HP.out.2.2.2.2.1;omega
   have HX:=hid (⟨hrow,hkn,hrl⟩:_∧_∧_)
   clear hrow hv h1 h2 hlo hcap hgl hcl hv2 hrl hk hkn
   go_wp2_with fail
   go_roundw
   case rel=>
    refine⟨k+1,HX.out.2.1,by push_cast;rfl,?_,trivial,hid ?_⟩
    ·rw[nodesN_succ HX.out.1];push_cast;rfl
    ·rw[nodesN_succ HX.out.1];have:=hA.out;have:=HX.out.2.2;omega
   case measure=>simp[intOf];have:=HX.out.2.1;omega
  ·obtain rfl:k=q:=by omega
   have i1:decide ((k:Int)< (k:Int))=false:=decide_eq_false (by omega)
   obtain⟨v,hv,h1,h2⟩:=HP.out.2.2.1 0 row0 HR0.out.1
   have hk1:0<k:=by have:=(List.getElem?_eq_some_iff.1 HR0.out.1).1;have:=HP.out.2.2.2.1;omega
   obtain⟨rg,cap,hv1,hlo,hcap,hgl,hcl⟩:=own_some HP.out.2.1 (by rw[←HP.out.2.2.2.1];exact hk1)
   injection hv1 with hv1 _ hv2
   subst hv1
   obtain⟨rp,rcap,hrv⟩: ∃rp rcap,v= .slice rp row0.length rcap:=row_form1 h2
   subst hrv
   have d1:=hcl 0 _ hv
   rw[Nat.zero_add] at d1
   have i3:(0:Int)< (k:Int):=by omega
   have hTk:nodesN rows k=T:=by rw[HT.out.2.1,HP.out.2.2.2.1]
   rw[hTk]
   have HK:=hid hTk
   have t1:=HT.out.1
   have t2:=HR0.out.2
   have t3:=HT.out.2.2
   obtain⟨n0,hn0⟩: ∃n0,n0=row0.length:=⟨_,rfl⟩
   rw[←hn0] at t2 d1
   have HN0:=hid hn0
   have w1:IntKind.i64.wrap (70*(T:Int))=70*(T:Int):=by rw[IntKind.wrap_i64];omega
   have w2:IntKind.i64.wrap (70*(T:Int)+40)=70*(T:Int)+40:=by rw[IntKind.wrap_i64];omega
   obtain⟨Q,hQ⟩: ∃Q,Q=n0*(70*T+40):=⟨_,rfl⟩
   have hQb:Q≤100000*7000040:=by rw[hQ];exact Nat.mul_le_mul t2 (by omega)
   have hQc:(n0:Int)*(70*(T:Int)+40)=(Q:Int):=by rw[hQ];push_cast;rfl
   have w3:IntKind.i64.wrap ((n0:Int)*(70*(T:Int)+40))=(Q:Int):=by rw[hQc,IntKind.wrap_i64];omega
   have w4:IntKind.i64.wrap (17*(p:Int))=17*(p:Int):=by rw[IntKind.wrap_i64];omega
   have w5:IntKind.i64.wrap ((Q:Int)+17*(p:Int))=(Q:Int)+17*(p:Int):=by rw[IntKind.wrap_i64];omega
   have HQ:=hid hQ
   clear hkn hk hQ hQb hQc hn0 t1 t2 t3 hTk hv h1 h2 hlo hcap hgl hcl hv2 hk1
   go_wp2_with fail
   go_ret
   have e9:((row0.length*(70*T+40)+17*p:Nat):Int)=(Q:Int)+17*(p:Int):=by rw[show row0.length*(70*T+40)=Q by rw[HQ.out,HN0.out]];push_cast;rfl
   exact⟨congrArg (fun z=>Ending.returned (.int .i64 z)) e9.symm,rfl⟩
end Go.Proofs.YtjmaicckkkdjpaaGreat
/- A law's scan over its world: the world's memory as bytes; the surroundings that a scan wants; what stands behind it. -/
namespace Go.Proofs.YtjmaicckkkdjpaaGreat
open Go.RowKit
theorem WorIs.inn {N0:Nat} {W X:World} {x:La} {xs:List Int} {wb g b nb:Nat} {R:AR} {lv:Value} {rows:List (List (Nat×NodeA))} {K si m:Nat} {MB:MB} (h:WorIs N0 W x xs wb g b nb R lv rows K si m MB) (hb:Below W.heap.size W X) {gp:Nat} {f:List Nat} (hg:W.heap.size≤gp) (hf: ∀z∈f,W.heap.size≤z):WkIn X si m gp MB (freshM (wordsOf R.bs)) 0 f:=by
 obtain⟨wc,N1,S,size,gs,sp,hO,_,_,_,_⟩:=h.ov
 have hm:=hO.mem.foot_lt
 have hl:=hO.sil
 refine⟨⟨hO.mem.only (Only.of_below hb []) (by simp),(fun L hL=>by cases hL),?_⟩,(by show St64 ⟨0,0,0,0⟩;unfold St64;simp),by omega,cell_bel hb hO.site,Nat.lt_of_lt_of_le hl hb.size,by omega,(fun hc=>by have:=hf _ hc;omega),fun hc=> ?_,fun hc=> ?_,fun y hy hc=> ?_⟩
 ·show 2≤(wordsOf R.bs).length
  unfold wordsOf
  rw[List.length_map,List.length_range,h.built.len]
  omega
 ·have:=(hO.low _ hc).2;have:=hO.lo.2.1;omega
 ·have:=hm _ hc;omega
 ·have:=hm _ hc;have:=hf _ hy;omega
theorem WorIs.after {N0:Nat} {W X Y:World} {x:La} {xs:List Int} {wb g b nb:Nat} {R:AR} {lv:Value} {rows:List (List (Nat×NodeA))} {K si m:Nat} {MB:MB} (h:WorIs N0 W x xs wb g b nb R lv rows K si m MB) (hb:Below W.heap.size W X) {ks:List Nat} (hk: ∀k∈ks,W.heap.size≤k∨k∈footM m MB (freshM (wordsOf R.bs))) (ho:Only ks X Y):
  (∃sp,Blk Y wb 92 #[ptrV g,ptrV si,ptrV m,sp])∧ArIs Y g b nb R lv∧Below N0 W Y∧ ∃N,LvsA Y N lv rows:=by
 obtain⟨wc,N1,S,size,gs,sp,hO,_,hgw,hbw,hN,N9,hLv⟩:=h.ov
 have hgl:=h.ar.blk.lt
 have hbl:=h.ar.by'.lt
 have hwl:=hO.blk.lt
 have hcs:=hO.bel.size
 have e1:wb∉ks:=fun hc=>by
  rcases hk _ hc with h1 | h1
  ·omega
  ·have:=(hO.low _ h1).2;have:=hO.lo.2.2;omega
 have e2: ∀y,y<wc.heap.size→y∉ks:=fun y hy hc=>by
  rcases hk _ hc with h1 | h1
  ·omega
  ·have:=(hO.low _ h1).1;omega
 refine⟨⟨sp,ho.blk (hO.blk.bel hb) e1⟩,⟨ho.blk (h.ar.blk.bel hb) (e2 _ hgw),ho.blk (h.ar.by'.bel hb) (e2 _ hbw),h.ar.ln,h.ar.big,h.ar.byt⟩,?_⟩
 have hs:=hb.size
 have key: ∀{n},n≤wc.heap.size→Below n X Y:=fun{n} hn=>ho.below (fun y hy=>by
  rcases hk _ hy with h1 | h1
  ·omega
  ·have:=(hO.low _ h1).1;omega) (by omega)
 refine⟨(hb.mono (by omega)).trans (key hN),N9,hLv.only (Only.of_below ((hO.bel.trans (hb.mono hcs)).trans (key (Nat.le_refl _))) []) (by simp)⟩
theorem WorIs.few {N0:Nat} {W:World} {x:La} {xs:List Int} {wb g b nb:Nat} {R:AR} {lv:Value} {rows:List (List (Nat×NodeA))} {K si m:Nat} {MB:MB} (h:WorIs N0 W x xs wb g b nb R lv rows K si m MB):
  nodesN rows rows.length=tK (risKeys xs) x.per.toNat x.lag.toNat (K+1)∧tK (risKeys xs) x.per.toNat x.lag.toNat (K+1)≤80∧rows.length≤1000∧ ∀row∈rows,row.length≤100000:=by
 have ht:=h.built.tin
 have hs:=h.ok
 unfold LaOK at hs
 have h80:tK (risKeys xs) x.per.toNat x.lag.toNat (K+1)≤80:=by omega
 have hk:=h.built.k15
 rw[h.rws]
 refine⟨nodes_tK _ _ _ _,h80,by rw[List.length_map,List.length_range];omega,fun row hr=> ?_⟩
 obtain⟨j,hj,rfl⟩:=List.mem_map.1 hr
 have hj:=List.mem_range.1 hj
 have h1:=stk_le (risKeys xs) x.per.toNat x.lag.toNat (show j+1≤K+1 by omega)
 rw[tK_succ] at h1
 unfold rowK
 rw[rowS_len]
 have h2:nRounds x.per.toNat (stk (uN (risKeys xs)) x.per.toNat x.lag.toNat (ents0 (risKeys xs)) j).2=nK (risKeys xs) x.per.toNat x.lag.toNat j:=rfl
 omega
end Go.Proofs.YtjmaicckkkdjpaaGreat
