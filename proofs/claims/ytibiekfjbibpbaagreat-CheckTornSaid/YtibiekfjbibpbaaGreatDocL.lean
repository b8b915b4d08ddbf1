import Derived.Test.YtibiekfjbibpbaaGreatDocJ
set_option maxRecDepth 100000
set_option maxHeartbeats 2000000
set_option linter.unusedVariables false
set_option linter.unusedSimpArgs false
namespace Go.Proofs.YtibiekfjbibpbaaGreat
open Go.RowKit
theorem x9l (k:Int) (s:ByteArray) (w:World) (hk:0<=k/\k<=18446744073709551615) (hs:s.size<=maxLen):(binOp .neq 48 (.agg #[.int .u64 k,.string s]) (.agg #[.int .u64 k,.string s])).run Tryz.prog w= .ok (.bool false) w:=by
 have L:(Lit.int .u64 k).wf=true:=by simp[Lit.wf,IntKind.min,IntKind.max,IntKind.signed,IntKind.bits];omega
 have c1:Tryz.prog.cellsOf 48=2:=by kernel_rfl
 have c2:Tryz.prog.cellsOf 46=1:=by kernel_rfl
 have c3:Tryz.prog.cellsOf 9=1:=by kernel_rfl
 have k1:Tryz.prog.keyLits 7 46 [.int .u64 k]=some [.int .u64 k]:=by unfold Program.keyLits;rw[Tryz.underlying46];simp[L]
 have k2:Tryz.prog.keyLits 7 9 [.string s]=some [.string s.data.toList]:=by unfold Program.keyLits;rw[Tryz.underlying9];simp[hs]
 obtain⟨la,I⟩:∃la,Tryz.prog.keyLits 8 48 [.int .u64 k,.string s]=some la:=by unfold Program.keyLits;rw[Tryz.underlying48];simp[c1,c2,c3,k1,k2]
 obtain⟨r,h1,h2⟩:=run_equalIn_deep (P:=Tryz.prog) (Op.maxDepth-8) 8 48 (by kernel_rfl) w 8 8 (.agg #[.int .u64 k,.string s]) (.agg #[.int .u64 k,.string s]) la la (by kernel_rfl) (by kernel_rfl) I I;have hr:r=true:=h2.2 rfl;subst hr;have h3:(Op.equal 48 (.agg #[.int .u64 k,.string s]) (.agg #[.int .u64 k,.string s])).run Tryz.prog w= .ok true w:=h1;simp[binOp,h3,go_sem]
theorem v7k {bs:List Int} (hb:∀x∈bs,0<=x/\x<256) {a:Int} {n:NodeA} (hn:q1y bs a=some n) {h:Int} {f:Bool} {e:Int×Int} (he:e∈q1n n h f):0<=e.1/\e.1<=18446744073709551615:=by unfold q1n q0r at he;have h1:=(Cg.1 he).1;obtain⟨i,_,rfl⟩:=Aj.1 h1;rw[(q6c hn).2];exact q4b hb a (8+2*i)
theorem z8i {c:Int} {l:List Nat} {s:ByteArray} (h:q2m c l= .tuple #[.string s,.int .i64 0]):s.size<=120:=by
 unfold q2m at h;have two:∀(x:ByteArray) (e:Int),Value.tuple #[.string x,.int .i64 e]= .tuple #[.string s,.int .i64 0]->e≠0->False:=fun x e h he=>by injection h with h;have:=congrArg (fun a:Array Value=>a[1]?) h;simp at this;exact he this
 split at h;·exact(two _ _ h (by decide)).elim
 ·split at h;·exact(two _ _ h (by decide)).elim
  ·split at h;·exact(two _ _ h (by decide)).elim
   ·rename_i n r _ hn;split at h;·exact(two _ _ h (by decide)).elim
    ·unfold q6n at h;split at h
     ·injection h with h;have h2:=congrArg (fun a:Array Value=>a[0]?) h;simp at h2;rw[<- h2,<- q2v,q8p (fun x hx=>q9c _ x (Ab hx)),AU]
      have:n<=120:=by
       by_cases hq:120<n;·exact absurd (Or.inl hq) hn
       ·omega
      omega
     ·exact(two _ _ h (by decide)).elim
theorem z4b {bs:List Int}:∀{es:List (Int×Int)} {R:List Int} {ps:List (Int×ByteArray)},q4m bs R es ps-> ∀p∈ps,p.2.size<=120/\ ∃e∈es,e.1=p.1
 | [],_,_,h,p,hp=>by have h':_=[]:=h;rw[h'] at hp;cases hp
 | e::es,R,_,h,p,hp=>by
  obtain⟨s,I,h1,rfl,h2⟩:=h;rcases AN.1 hp with rfl|hp;·exact⟨z8i h1.2.2,e,Ae ..,rfl⟩
  ·obtain⟨q1,e',q2,q3⟩:=z4b h2 p hp;exact⟨q1,e',AW _ q2,q3⟩
theorem z9b {bs:List Int} (hb:∀x∈bs,0<=x/\x<256) {rs:List (List (Int×NodeA))} {ps:List (Int×ByteArray)} (h:q1a bs rs ps):∀p∈ps,(0<=p.1/\p.1<=18446744073709551615)/\p.2.size<=120:=by obtain⟨leaves,hl,hv⟩:=h.vals;intro p hp;obtain⟨h1,e,he,h2⟩:=z4b hv p hp;refine⟨?_,h1⟩;rw[<- h2];unfold allE at he;obtain⟨i,hi,he⟩:=Bq.1 he;have I:=Av.1 hi;obtain⟨n,hn,hr⟩:=h.rows;have L:=q7l hn;have M:=q1s h.slabs.1;obtain⟨_,hc⟩:=hr.chains hb L.1 (q8v hb (show 2<bs.length/8 by omega)).1;obtain⟨l,a,q1,q2⟩:=hc leaves (Bo hl);obtain⟨p',hw⟩:=q2.whole;unfold actI at he;rw[AD I] at he;exact v7k hb (hw.at' _ (List.getElem_mem I)).2.1 he
structure q6g (w:World) (pv rv fv kv:Value) (ps:List (Int×ByteArray)) (R F K:List Int):Prop where
 pa:q1b w pv ps.length (ps.flatMap q5v)
 pc:∃a c,pv= .slice a ps.length c/\ps.length<=c
 ra:q1w .u64 w rv R
 fa:q1w .u64 w fv F
 ka:q1w .u64 w kv K
theorem q6g.bel {w w':World} {pv rv fv kv:Value} {ps:List (Int×ByteArray)} {R F K:List Int} (h:q6g w pv rv fv kv ps R F K) (hb:Below w.heap.size w w'):q6g w' pv rv fv kv ps R F K:=⟨h.pa.bel hb,h.pc,h.ra.bel hb,h.fa.bel hb,h.ka.bel hb⟩
theorem z5n:∀(l:List (Int×ByteArray)) (i:Nat) (x:Int×ByteArray),l[i]?=some x->(l.flatMap q5v)[i*2]?=some (.int .u64 x.1)/\(l.flatMap q5v)[i*2+1]?=some (.string x.2)
 | [],i,x,h=>by simp at h
 | y::l,0,x,h=>by simp at h;subst h;exact⟨rfl,rfl⟩
 | y::l,i+1,x,h=>by have:=z5n l i x (by simpa using h);rw[Ap,show(i+1)*2=(i*2)+1+1 by omega];exact this
theorem q6g.pair {w:World} {pa:Option Addr} {pc pn:Nat} {rv fv kv:Value} {ps:List (Int×ByteArray)} {R F K:List Int} (h:q6g w (.slice pa pn pc) rv fv kv ps R F K) {i:Nat} {x:Int×ByteArray} (hx:ps[i]?=some x):
  pn=ps.length/\ ∃b off,pa=some ⟨b,off,none⟩/\w.cell? ⟨b,off+i*2,none⟩=some (.int .u64 x.1)/\w.cell? ⟨b,off+i*2+1,none⟩=some (.string x.2):=by
 have hl:=(AE.1 hx).1;obtain⟨a,c,e,_⟩:=h.pc;injection e with e1 e2 e3;refine⟨e2,?_⟩;rcases h.pa with⟨e4,h0,_⟩|⟨b,off,c',e4,h1⟩;·omega
 ·injection e4 with e4 _ _;exact⟨b,off,e4,h1 _ _ (z5n ps i x hx).1,by have:=h1 _ _ (z5n ps i x hx).2;rwa[<- Ce] at this⟩
theorem x8o (h nn:Int) (pn qn:Nat) (pa qa:Option Addr) (pc qc:Nat) (rv fv kv h6 Y hf:Value) (ps:List (Int×ByteArray)) (R F K:List Int) (w:World) (h1:q6g w (.slice pa pn pc) rv fv kv ps R F K) (h2:q6g w (.slice qa qn qc) h6 Y hf ps R F K) (hl:ps.length<=1000000/\R.length<=1000000/\F.length<=1000000/\K.length<=1000000) (ha:∀p∈ps,(0<=p.1/\p.1<=18446744073709551615)/\p.2.size<=120):
  Calls Tryz.prog 17 #[.agg #[.slice pa pn pc,rv,fv,kv,.int .i64 h,.int .i64 nn],.agg #[.slice qa qn qc,h6,Y,hf,.int .i64 h,.int .i64 nn]] w fun e w'=>e= .returned (.bool true)/\Below w.heap.size w w':=by
 obtain⟨n,hn⟩:∃n,n=ps.length:=⟨_,rfl⟩;have ep:n=pn/\pn<=pc:=by obtain⟨a,c,e,he⟩:=h1.pc;injection e with _ e2 e3;omega
 have hm:n=qn/\qn<=qc:=by obtain⟨a,c,e,he⟩:=h2.pc;injection e with _ e2 e3;omega
 obtain⟨hg,hr⟩:=ep;obtain⟨hk,hq⟩:=hm;subst hg hk;obtain⟨ra,rc,rfl,_⟩:=id h1.ra;obtain⟨fa,fc,rfl,_⟩:=id h1.fa;obtain⟨ka,kc,rfl,_⟩:=id h1.ka;obtain⟨sa,sc,rfl,_⟩:=id h2.ra;obtain⟨ga,gc,rfl,_⟩:=id h2.fa;obtain⟨la,lc,rfl,_⟩:=id h2.ka;obtain⟨rn,U⟩:∃rn,rn=R.length:=⟨_,rfl⟩;obtain⟨fn,h7⟩:∃fn,fn=F.length:=⟨_,rfl⟩;obtain⟨kn,h8⟩:∃kn,kn=K.length:=⟨_,rfl⟩;rw[<- U,<- h7,<- h8] at h1 h2 ⊢;obtain⟨W1,I⟩:∃W1,W1=(w.alloc (.cells #[.slice pa n pc,.slice ra rn rc,.slice fa fn fc,.slice ka kn kc,.int .i64 h,.int .i64 nn] 32)).alloc (.cells #[.slice qa n qc,.slice sa rn sc,.slice ga fn gc,.slice la kn lc,.int .i64 h,.int .i64 nn] 32):=⟨_,rfl⟩;have h4:Below w.heap.size w W1:=by rw[I];exact ba (ba (Below.refl _ _) _) _
 have k2:Blk W1 w.heap.size 32 #[.slice pa n pc,.slice ra rn rc,.slice fa fn fc,.slice ka kn kc,.int .i64 h,.int .i64 nn]:=by rw[I];exact(Blk.new _ _ _).alloc _
 have k3:Blk W1 (w.heap.size+1) 32 #[.slice qa n qc,.slice sa rn sc,.slice ga fn gc,.slice la kn lc,.int .i64 h,.int .i64 nn]:=by
  rw[I];have:=Blk.new (w.alloc (.cells #[.slice pa n pc,.slice ra rn rc,.slice fa fn fc,.slice ka kn kc,.int .i64 h,.int .i64 nn] 32)) 32 #[.slice qa n qc,.slice sa rn sc,.slice ga fn gc,.slice la kn lc,.int .i64 h,.int .i64 nn]
  rwa[World.size_alloc] at this
 have SR:=hid (fun W (hb:Below w.heap.size w W)=>by have:=z9o (.slice ra rn rc) (.slice sa rn sc) R R W (h1.ra.bel hb) (h2.ra.bel hb) (by omega) (by omega);rw[AT rfl] at this;exact this);have SF:=hid (fun W (hb:Below w.heap.size w W)=>by have:=z9o (.slice fa fn fc) (.slice ga fn gc) F F W (h1.fa.bel hb) (h2.fa.bel hb) (by omega) (by omega);rw[AT rfl] at this;exact this);have SK:=hid (fun W (hb:Below w.heap.size w W)=>by have:=z9o (.slice ka kn kc) (.slice la kn lc) K K W (h1.ka.bel hb) (h2.ka.bel hb) (by omega) (by omega);rw[AT rfl] at this;exact this)
 have CL:=hid (fun W (hb:Below W1.heap.size W1 W)=>(⟨(k2.bel hb).cell 0,(k2.bel hb).cell 1,(k2.bel hb).cell 2,(k2.bel hb).cell 3,(k2.bel hb).cell 4,(k2.bel hb).cell 5,(k3.bel hb).cell 0,(k3.bel hb).cell 1,(k3.bel hb).cell 2,(k3.bel hb).cell 3,(k3.bel hb).cell 4,(k3.bel hb).cell 5⟩:W.cell? ⟨w.heap.size,0,none⟩=some (.slice pa n pc)/\W.cell? ⟨w.heap.size,1,none⟩=some (.slice ra rn rc)/\W.cell? ⟨w.heap.size,2,none⟩=some (.slice fa fn fc)/\W.cell? ⟨w.heap.size,3,none⟩=some (.slice ka kn kc)/\W.cell? ⟨w.heap.size,4,none⟩=some (.int .i64 h)/\W.cell? ⟨w.heap.size,5,none⟩=some (.int .i64 nn)/\
  W.cell? ⟨w.heap.size+1,0,none⟩=some (.slice qa n qc)/\W.cell? ⟨w.heap.size+1,1,none⟩=some (.slice sa rn sc)/\W.cell? ⟨w.heap.size+1,2,none⟩=some (.slice ga fn gc)/\W.cell? ⟨w.heap.size+1,3,none⟩=some (.slice la kn lc)/\W.cell? ⟨w.heap.size+1,4,none⟩=some (.int .i64 h)/\W.cell? ⟨w.heap.size+1,5,none⟩=some (.int .i64 nn)))
 have e1:(h !=h)=false:=by simp
 have e2:(nn !=nn)=false:=by simp
 have e3:((n:Int) !=(n:Int))=false:=by simp
 have HP:=hid (fun W (hb:Below w.heap.size w W)=>(⟨h1.bel hb,h2.bel hb⟩:_/\_));have HN:=hid (⟨hn,hl.1,ha⟩:_/\_/\_);have L:=hid h4;have HW:=hid I;clear h4 k2 k3 I h1 h2 hn hl ha U h7 h8;go_enter Tryz.func17,Tryz.ntmps17;go_upto_region 1 with fail;rw[<- HW.out];clear HW;obtain⟨c0,c1,c2,c3,c4,c5,d0,d1,d2,d3,d4,d5⟩:=CL.out W1 (Below.refl _ _);go_wp2_with fail;refine(SR.out _ L.out).mono ?_;rintro e w2 ⟨rfl,h3⟩;clear c0 c1 c2 c3 c4 c5 d0 d1 d2 d3 d4 d5;have M:=hid h3;clear h3;obtain⟨c0,c1,c2,c3,c4,c5,d0,d1,d2,d3,d4,d5⟩:=CL.out w2 M.out;go_wp2_with fail;refine(SF.out _ (bx L.out M.out)).mono ?_;rintro e w3 ⟨rfl,h5⟩;clear c0 c1 c2 c3 c4 c5 d0 d1 d2 d3 d4 d5;have O:=hid (bx M.out h5);clear h5;obtain⟨c0,c1,c2,c3,c4,c5,d0,d1,d2,d3,d4,d5⟩:=CL.out w3 O.out;go_wp2_with fail;refine(SK.out _ (bx L.out O.out)).mono ?_;rintro e w4 ⟨rfl,S⟩;clear c0 c1 c2 c3 c4 c5 d0 d1 d2 d3 d4 d5;have hh:=hid (bx O.out S);clear S;go_wp2;go_loopw [5] (fun iv wr=> ∃i:Nat,i<=n/\iv= .int .i64 (i:Int)/\Hid (Below W1.heap.size W1 wr)) (fun iv _=>n- (intOf iv).toNat);case atStart=>exact⟨0,Af _,rfl,hh⟩
 case round=>
  obtain⟨i,hi,rfl,hI⟩:=hrel;obtain⟨wA,rfl⟩:∃x,x=wr:=⟨_,rfl⟩;obtain⟨c0,_,_,_,_,_,d0,_,_,_,_,_⟩:=CL.out wA hI.out;by_cases hip:i<n
  ·obtain⟨x,hx⟩:∃x,ps[i]?=some x:=⟨_,AD (by have:=HN.out.1;omega)⟩;have i1:(i:Int)< (n:Int):=by omega
   have i0:(0:Int)<=(i:Int):=by omega
   obtain⟨p1,p2⟩:=HP.out wA (bx L.out hI.out);obtain⟨_,b,off,ea,x1,x2⟩:=p1.pair hx;subst ea;obtain⟨_,b',hj,ea,y1,y2⟩:=p2.pair hx;subst ea;have hs:=HN.out.2.2 x (AJ hx);have ho:=fun W=>x9l x.1 x.2 W hs.1 (by unfold maxLen;omega);have h9:=hid hip;have hp:i<1000000:=by have:=HN.out;omega
   clear hx hip hi p1 p2 hs;go_upto_region 6 with fail;go_quiet (fail);go_wp2;go_roundw;case rel=>exact⟨i+1,h9.out,by go_num,hid (by refine bx hI.out ?_;(repeat(first|exact Below.refl _ _|(refine ba ?_ _)|(refine Below.drew ?_)|(refine below_drewN ?_ _)|(refine Below.alloc ?_ (by first|omega|simp<;>omega) _)|(refine Below.setCell ?_ (by first|omega|simp<;>omega) _)|(refine bx ?_ (by assumption))|(refine Below.trans ?_ (Below.mono (by assumption) (by first|omega|simp<;>omega))))))⟩
   case measure=>simp[intOf];have:=h9.out;omega
  ·obtain rfl:i=n:=by omega
   have i1: ¬(i:Int)< (i:Int):=by omega
   clear hi hip;go_wp2;go_ret;exact⟨rfl,bx L.out hI.out⟩
end Go.Proofs.YtibiekfjbibpbaaGreat
