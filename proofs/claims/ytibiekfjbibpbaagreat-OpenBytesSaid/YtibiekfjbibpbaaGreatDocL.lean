/- The document's Same: two reports that are the same. -/
import Derived.Test.YtibiekfjbibpbaaGreatDocJ
import Derived.DeepKeys
set_option maxRecDepth 100000
set_option maxHeartbeats 2000000
set_option linter.unusedVariables false
set_option linter.unusedSimpArgs false
namespace Go.Proofs.YtibiekfjbibpbaaGreat
open Go.RowKit
theorem neq_pair (k:Int) (s:ByteArray) (w:World) (hk:0≤k∧k≤18446744073709551615) (hs:s.size≤maxLen):(binOp .neq 48 (.agg #[.int .u64 k,.string s]) (.agg #[.int .u64 k,.string s])).run Tryz.prog w= .ok (.bool false) w:=by
 have hwf:(Lit.int .u64 k).wf=true:=by
  simp[Lit.wf,IntKind.min,IntKind.max,IntKind.signed,IntKind.bits]
  omega
 have c1:Tryz.prog.cellsOf 48=2:=by kernel_rfl
 have c2:Tryz.prog.cellsOf 46=1:=by kernel_rfl
 have c3:Tryz.prog.cellsOf 9=1:=by kernel_rfl
 have k1:Tryz.prog.keyLits 7 46 [.int .u64 k]=some [.int .u64 k]:=by
  unfold Program.keyLits
  rw[Tryz.underlying46]
  simp[hwf]
 have k2:Tryz.prog.keyLits 7 9 [.string s]=some [.string s.data.toList]:=by
  unfold Program.keyLits
  rw[Tryz.underlying9]
  simp[hs]
 obtain⟨la,hla⟩: ∃la,Tryz.prog.keyLits 8 48 [.int .u64 k,.string s]=some la:=by
  unfold Program.keyLits
  rw[Tryz.underlying48]
  simp[c1,c2,c3,k1,k2]
 obtain⟨r,h1,h2⟩:=run_equalIn_deep (P:=Tryz.prog) (Op.maxDepth-8) 8 48 (by kernel_rfl) w 8 8 (.agg #[.int .u64 k,.string s]) (.agg #[.int .u64 k,.string s]) la la (by kernel_rfl) (by kernel_rfl) hla hla
 have hr:r=true:=h2.2 rfl
 subst hr
 have h3:(Op.equal 48 (.agg #[.int .u64 k,.string s]) (.agg #[.int .u64 k,.string s])).run Tryz.prog w= .ok true w:=h1
 simp[binOp,h3,go_sem]
theorem act_key {bs:List Int} (hb: ∀x∈bs,0≤x∧x<256) {a:Int} {n:NodeA} (hn:nodeI bs a=some n) {h:Int} {f:Bool} {e:Int×Int} (he:e∈activeN n h f):0≤e.1∧e.1≤18446744073709551615:=by
 unfold activeN validN at he
 have h1:=(List.mem_filter.1 he).1
 obtain⟨i,_,rfl⟩:=List.mem_map.1 h1
 rw[(node_in hn).2]
 exact nodeF_U64 hb a (8+2*i)
theorem parseV_size {c:Int} {l:List Nat} {s:ByteArray} (h:parseV c l= .tuple #[.string s,.int .i64 0]):s.size≤120:=by
 unfold parseV at h
 have two: ∀(x:ByteArray) (e:Int),Value.tuple #[.string x,.int .i64 e]= .tuple #[.string s,.int .i64 0]→e≠0→False:=fun x e h he=>by
  injection h with h
  have:=congrArg (fun a:Array Value=>a[1]?) h
  simp at this
  exact he this
 split at h
 ·exact(two _ _ h (by decide)).elim
 ·split at h
  ·exact(two _ _ h (by decide)).elim
  ·split at h
   ·exact(two _ _ h (by decide)).elim
   ·rename_i n r _ hn
    split at h
    ·exact(two _ _ h (by decide)).elim
    ·unfold textV at h
     split at h
     ·injection h with h
      have h2:=congrArg (fun a:Array Value=>a[0]?) h
      simp at h2
      rw[←h2,←strB_len,strB_of (fun x hx=>bytesN_in _ x (List.mem_of_mem_take hx)),List.length_take]
      have:n≤120:=by
       by_cases hq:120<n
       ·exact absurd (Or.inl hq) hn
       ·omega
      omega
     ·exact(two _ _ h (by decide)).elim
theorem vals_small {bs:List Int}: ∀{es:List (Int×Int)} {R:List Int} {ps:List (Int×ByteArray)},ValsAt bs R es ps→ ∀p∈ps,p.2.size≤120∧ ∃e∈es,e.1=p.1
 | [],_,_,h,p,hp=>by have h':_=[]:=h;rw[h'] at hp;cases hp
 | e::es,R,_,h,p,hp=>by
  obtain⟨s,ps',h1,rfl,h2⟩:=h
  rcases List.mem_cons.1 hp with rfl | hp
  ·exact⟨parseV_size h1.2.2,e,List.mem_cons_self ..,rfl⟩
  ·obtain⟨q1,e',q2,q3⟩:=vals_small h2 p hp
   exact⟨q1,e',List.mem_cons_of_mem _ q2,q3⟩
theorem whole_small {bs:List Int} (hb: ∀x∈bs,0≤x∧x<256) {rs:List (List (Int×NodeA))} {ps:List (Int×ByteArray)} (h:WholeOK bs rs ps): ∀p∈ps,(0≤p.1∧p.1≤18446744073709551615)∧p.2.size≤120:=by
 obtain⟨leaves,hl,hv⟩:=h.vals
 intro p hp
 obtain⟨h1,e,he,h2⟩:=vals_small hv p hp
 refine⟨?_,h1⟩
 rw[←h2]
 unfold allE at he
 obtain⟨i,hi,he⟩:=List.mem_flatMap.1 he
 have hi2:=List.mem_range.1 hi
 obtain⟨n,hn,hr⟩:=h.rows
 have hlv:=nodeI_lv hn
 have hsl:=slabs_len h.slabs.1
 obtain⟨_,hc⟩:=hr.chains hb hlv.1 (wAt_in hb (show 2<bs.length/8 by omega)).1
 obtain⟨l,a,q1,q2⟩:=hc leaves (List.mem_of_getLast? hl)
 obtain⟨p',hw⟩:=q2.whole
 unfold actI at he
 rw[List.getElem?_eq_getElem hi2] at he
 exact act_key hb (hw.at' _ (List.getElem_mem hi2)).2.1 he
structure RepAt (w:World) (pv rv fv kv:Value) (ps:List (Int×ByteArray)) (R F K:List Int):Prop where
 pa:NewsAt w pv ps.length (ps.flatMap pairC)
 pc: ∃a c,pv= .slice a ps.length c∧ps.length≤c
 ra:NumsAt .u64 w rv R
 fa:NumsAt .u64 w fv F
 ka:NumsAt .u64 w kv K
theorem RepAt.bel {w w':World} {pv rv fv kv:Value} {ps:List (Int×ByteArray)} {R F K:List Int} (h:RepAt w pv rv fv kv ps R F K) (hb:Below w.heap.size w w'):RepAt w' pv rv fv kv ps R F K:=
 ⟨h.pa.bel hb,h.pc,h.ra.bel hb,h.fa.bel hb,h.ka.bel hb⟩
theorem pairL_at: ∀(l:List (Int×ByteArray)) (i:Nat) (x:Int×ByteArray),l[i]?=some x→(l.flatMap pairC)[i*2]?=some (.int .u64 x.1)∧(l.flatMap pairC)[i*2+1]?=some (.string x.2)
 | [],i,x,h=>by simp at h
 | y::l,0,x,h=>by
  simp at h;subst h
  exact⟨rfl,rfl⟩
 | y::l,i+1,x,h=>by
  have:=pairL_at l i x (by simpa using h)
  rw[List.flatMap_cons,show(i+1)*2=(i*2)+1+1 by omega]
  exact this
theorem RepAt.pair {w:World} {pa:Option Addr} {pc pn:Nat} {rv fv kv:Value} {ps:List (Int×ByteArray)} {R F K:List Int} (h:RepAt w (.slice pa pn pc) rv fv kv ps R F K) {i:Nat} {x:Int×ByteArray} (hx:ps[i]?=some x):
  pn=ps.length∧ ∃b off,pa=some ⟨b,off,none⟩∧w.cell? ⟨b,off+i*2,none⟩=some (.int .u64 x.1)∧w.cell? ⟨b,off+i*2+1,none⟩=some (.string x.2):=by
 have hl:=(List.getElem?_eq_some_iff.1 hx).1
 obtain⟨a,c,e,_⟩:=h.pc
 injection e with e1 e2 e3
 refine⟨e2,?_⟩
 rcases h.pa with⟨e4,h0,_⟩ | ⟨b,off,c',e4,h1⟩
 ·omega
 ·injection e4 with e4 _ _
  exact⟨b,off,e4,h1 _ _ (pairL_at ps i x hx).1,by have:=h1 _ _ (pairL_at ps i x hx).2;rwa[←Nat.add_assoc] at this⟩
theorem DSame_yes (h nn:Int) (pn qn:Nat) (pa qa:Option Addr) (pc qc:Nat) (rv fv kv rv2 fv2 kv2:Value) (ps:List (Int×ByteArray)) (R F K:List Int) (w:World) (h1:RepAt w (.slice pa pn pc) rv fv kv ps R F K) (h2:RepAt w (.slice qa qn qc) rv2 fv2 kv2 ps R F K) (hl:ps.length≤1000000∧R.length≤1000000∧F.length≤1000000∧K.length≤1000000) (hsm: ∀p∈ps,(0≤p.1∧p.1≤18446744073709551615)∧p.2.size≤120):
  Calls Tryz.prog 17 #[.agg #[.slice pa pn pc,rv,fv,kv,.int .i64 h,.int .i64 nn],.agg #[.slice qa qn qc,rv2,fv2,kv2,.int .i64 h,.int .i64 nn]] w fun e w'=>e= .returned (.bool true)∧Below w.heap.size w w':=by
 obtain⟨n,hn⟩: ∃n,n=ps.length:=⟨_,rfl⟩
 have ep:n=pn∧pn≤pc:=by
  obtain⟨a,c,e,he⟩:=h1.pc
  injection e with _ e2 e3
  omega
 have eq':n=qn∧qn≤qc:=by
  obtain⟨a,c,e,he⟩:=h2.pc
  injection e with _ e2 e3
  omega
 obtain⟨ep1,hpc⟩:=ep
 obtain⟨eq1,hqc⟩:=eq'
 subst ep1 eq1
 obtain⟨ra,rc,rfl,_⟩:=id h1.ra
 obtain⟨fa,fc,rfl,_⟩:=id h1.fa
 obtain⟨ka,kc,rfl,_⟩:=id h1.ka
 obtain⟨sa,sc,rfl,_⟩:=id h2.ra
 obtain⟨ga,gc,rfl,_⟩:=id h2.fa
 obtain⟨la,lc,rfl,_⟩:=id h2.ka
 obtain⟨rn,hrn⟩: ∃rn,rn=R.length:=⟨_,rfl⟩
 obtain⟨fn,hfn⟩: ∃fn,fn=F.length:=⟨_,rfl⟩
 obtain⟨kn,hkn⟩: ∃kn,kn=K.length:=⟨_,rfl⟩
 rw[←hrn,←hfn,←hkn] at h1 h2 ⊢
 obtain⟨W1,hW1⟩: ∃W1,W1=(w.alloc (.cells #[.slice pa n pc,.slice ra rn rc,.slice fa fn fc,.slice ka kn kc,.int .i64 h,.int .i64 nn] 32)).alloc (.cells #[.slice qa n qc,.slice sa rn sc,.slice ga fn gc,.slice la kn lc,.int .i64 h,.int .i64 nn] 32):=⟨_,rfl⟩
 have hb1:Below w.heap.size w W1:=by rw[hW1];exact ba (ba (Below.refl _ _) _) _
 have k2:Blk W1 w.heap.size 32 #[.slice pa n pc,.slice ra rn rc,.slice fa fn fc,.slice ka kn kc,.int .i64 h,.int .i64 nn]:=by rw[hW1];exact(Blk.new _ _ _).alloc _
 have k3:Blk W1 (w.heap.size+1) 32 #[.slice qa n qc,.slice sa rn sc,.slice ga fn gc,.slice la kn lc,.int .i64 h,.int .i64 nn]:=by
  rw[hW1]
  have:=Blk.new (w.alloc (.cells #[.slice pa n pc,.slice ra rn rc,.slice fa fn fc,.slice ka kn kc,.int .i64 h,.int .i64 nn] 32)) 32 #[.slice qa n qc,.slice sa rn sc,.slice ga fn gc,.slice la kn lc,.int .i64 h,.int .i64 nn]
  rwa[World.size_alloc] at this
 have SR:=hid (fun W (hb:Below w.heap.size w W)=>by
  have:=Same5_r (.slice ra rn rc) (.slice sa rn sc) R R W (h1.ra.bel hb) (h2.ra.bel hb) (by omega) (by omega)
  rw[decide_eq_true rfl] at this
  exact this)
 have SF:=hid (fun W (hb:Below w.heap.size w W)=>by
  have:=Same5_r (.slice fa fn fc) (.slice ga fn gc) F F W (h1.fa.bel hb) (h2.fa.bel hb) (by omega) (by omega)
  rw[decide_eq_true rfl] at this
  exact this)
 have SK:=hid (fun W (hb:Below w.heap.size w W)=>by
  have:=Same5_r (.slice ka kn kc) (.slice la kn lc) K K W (h1.ka.bel hb) (h2.ka.bel hb) (by omega) (by omega)
  rw[decide_eq_true rfl] at this
  exact this)
 have CL:=hid (fun W (hb:Below W1.heap.size W1 W)=>(⟨(k2.bel hb).cell 0,(k2.bel hb).cell 1,(k2.bel hb).cell 2,(k2.bel hb).cell 3,(k2.bel hb).cell 4,(k2.bel hb).cell 5,(k3.bel hb).cell 0,(k3.bel hb).cell 1,(k3.bel hb).cell 2,(k3.bel hb).cell 3,(k3.bel hb).cell 4,(k3.bel hb).cell 5⟩:W.cell? ⟨w.heap.size,0,none⟩=some (.slice pa n pc)∧W.cell? ⟨w.heap.size,1,none⟩=some (.slice ra rn rc)∧W.cell? ⟨w.heap.size,2,none⟩=some (.slice fa fn fc)∧W.cell? ⟨w.heap.size,3,none⟩=some (.slice ka kn kc)∧W.cell? ⟨w.heap.size,4,none⟩=some (.int .i64 h)∧W.cell? ⟨w.heap.size,5,none⟩=some (.int .i64 nn)∧
  W.cell? ⟨w.heap.size+1,0,none⟩=some (.slice qa n qc)∧W.cell? ⟨w.heap.size+1,1,none⟩=some (.slice sa rn sc)∧W.cell? ⟨w.heap.size+1,2,none⟩=some (.slice ga fn gc)∧W.cell? ⟨w.heap.size+1,3,none⟩=some (.slice la kn lc)∧W.cell? ⟨w.heap.size+1,4,none⟩=some (.int .i64 h)∧W.cell? ⟨w.heap.size+1,5,none⟩=some (.int .i64 nn)))
 have e1:(h !=h)=false:=by simp
 have e2:(nn !=nn)=false:=by simp
 have e3:((n:Int) !=(n:Int))=false:=by simp
 have HP:=hid (fun W (hb:Below w.heap.size w W)=>(⟨h1.bel hb,h2.bel hb⟩:_∧_))
 have HN:=hid (⟨hn,hl.1,hsm⟩:_∧_∧_)
 have HB1:=hid hb1
 have HW:=hid hW1
 clear hb1 k2 k3 hW1 h1 h2 hn hl hsm hrn hfn hkn
 go_enter Tryz.func17,Tryz.ntmps17
 go_upto_region 1 with fail
 rw[←HW.out]
 clear HW
 obtain⟨c0,c1,c2,c3,c4,c5,d0,d1,d2,d3,d4,d5⟩:=CL.out W1 (Below.refl _ _)
 go_wp2_with fail
 refine(SR.out _ HB1.out).mono ?_
 rintro e w2 ⟨rfl,hb2⟩
 clear c0 c1 c2 c3 c4 c5 d0 d1 d2 d3 d4 d5
 have HB2:=hid hb2
 clear hb2
 obtain⟨c0,c1,c2,c3,c4,c5,d0,d1,d2,d3,d4,d5⟩:=CL.out w2 HB2.out
 go_wp2_with fail
 refine(SF.out _ (bx HB1.out HB2.out)).mono ?_
 rintro e w3 ⟨rfl,hb3⟩
 clear c0 c1 c2 c3 c4 c5 d0 d1 d2 d3 d4 d5
 have HB3:=hid (bx HB2.out hb3)
 clear hb3
 obtain⟨c0,c1,c2,c3,c4,c5,d0,d1,d2,d3,d4,d5⟩:=CL.out w3 HB3.out
 go_wp2_with fail
 refine(SK.out _ (bx HB1.out HB3.out)).mono ?_
 rintro e w4 ⟨rfl,hb4⟩
 clear c0 c1 c2 c3 c4 c5 d0 d1 d2 d3 d4 d5
 have HB4:=hid (bx HB3.out hb4)
 clear hb4
 go_wp2
 go_loopw [5] (fun iv wr=> ∃i:Nat,i≤n∧iv= .int .i64 (i:Int)∧Hid (Below W1.heap.size W1 wr)) (fun iv _=>n- (intOf iv).toNat)
 case atStart=>exact⟨0,Nat.zero_le _,rfl,HB4⟩
 case round=>
  obtain⟨i,hi,rfl,hI⟩:=hrel
  obtain⟨wA,rfl⟩: ∃x,x=wr:=⟨_,rfl⟩
  obtain⟨c0,_,_,_,_,_,d0,_,_,_,_,_⟩:=CL.out wA hI.out
  by_cases hip:i<n
  ·obtain⟨x,hx⟩: ∃x,ps[i]?=some x:=⟨_,List.getElem?_eq_getElem (by have:=HN.out.1;omega)⟩
   have i1:(i:Int)< (n:Int):=by omega
   have i0:(0:Int)≤(i:Int):=by omega
   obtain⟨p1,p2⟩:=HP.out wA (bx HB1.out hI.out)
   obtain⟨_,b,off,ea,x1,x2⟩:=p1.pair hx
   subst ea
   obtain⟨_,b',off',ea,y1,y2⟩:=p2.pair hx
   subst ea
   have hs:=HN.out.2.2 x (List.mem_of_getElem? hx)
   have hnq:=fun W=>neq_pair x.1 x.2 W hs.1 (by unfold maxLen;omega)
   have HIP:=hid hip
   have hi6:i<1000000:=by have:=HN.out;omega
   clear hx hip hi p1 p2 hs
   go_upto_region 6 with fail
   go_quiet (fail)
   go_wp2
   go_roundw
   case rel=>exact⟨i+1,HIP.out,by go_num,hid (by refine bx hI.out ?_;(repeat(first | exact Below.refl _ _ | (refine ba ?_ _) | (refine Below.drew ?_) | (refine below_drewN ?_ _) | (refine Below.alloc ?_ (by first | omega | (simp;done) | (simp;omega)) _) | (refine Below.setCell ?_ (by first | omega | (simp;done) | (simp;omega)) _) | (refine bx ?_ (by assumption)) | (refine Below.trans ?_ (Below.mono (by assumption) (by first | omega | (simp;done) | (simp;omega)))))))⟩
   case measure=>simp[intOf];have:=HIP.out;omega
  ·obtain rfl:i=n:=by omega
   have i1: ¬(i:Int)< (i:Int):=by omega
   clear hi hip
   go_wp2
   go_ret
   exact⟨rfl,bx HB1.out hI.out⟩
end Go.Proofs.YtibiekfjbibpbaaGreat
