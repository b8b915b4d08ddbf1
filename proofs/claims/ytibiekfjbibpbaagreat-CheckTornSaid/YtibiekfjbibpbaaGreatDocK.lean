import Derived.Test.YtibiekfjbibpbaaGreatDocJ
set_option maxRecDepth 100000
set_option maxHeartbeats 8000000
set_option linter.unusedVariables false
set_option linter.unusedSimpArgs false
namespace Go.Proofs.YtibiekfjbibpbaaGreat
open Go.RowKit
theorem z2o (ps:Array (Nat×Value)):Instr.build 32 ps=bldM 32 ps:=rfl
attribute [local go_sem ↓ high] q0s q0f q0d q5l q7s q7o q6b q6p q0v q6v q7f q7e z2o
attribute [local go_sem] q1x q1p q1v q2t q4g Oper.semAt_some q0h
def rep0:Array Value:= #[.slice none 0 0,.slice none 0 0,.slice none 0 0,.slice none 0 0,.int .i64 0,.int .i64 0]
theorem z2j (W:World):bldR Tryz.prog 32 #[] W= .ok (.agg rep0) W:=by kernel_rfl
theorem v8g (h:Int) (W:World):bldR Tryz.prog 32 #[(4,.int .i64 h)] W= .ok (.agg #[.slice none 0 0,.slice none 0 0,.slice none 0 0,.slice none 0 0,.int .i64 h,.int .i64 0]) W:=by kernel_rfl
theorem v4c (W:World) (h:Int):∃W',stR Tryz.prog 32 (.pointer (some ⟨W.heap.size,0,none⟩)) (.agg #[.slice none 0 0,.slice none 0 0,.slice none 0 0,.slice none 0 0,.int .i64 h,.int .i64 0]) (W.alloc (.cells #[.slice none 0 0,.slice none 0 0,.slice none 0 0,.slice none 0 0,.int .i64 0,.int .i64 0] 32))= .ok () W'/\Blk W' W.heap.size 32 #[.slice none 0 0,.slice none 0 0,.slice none 0 0,.slice none 0 0,.int .i64 h,.int .i64 0]/\Below W.heap.size W W':=by obtain⟨W',h1,h2,h3⟩:=x9x (Blk.new W 32 #[.slice none 0 0,.slice none 0 0,.slice none 0 0,.slice none 0 0,.int .i64 0,.int .i64 0]) rfl none none none none 0 0 0 0 0 0 0 0 h 0;have hb:Below W.heap.size W (W.alloc (.cells #[.slice none 0 0,.slice none 0 0,.slice none 0 0,.slice none 0 0,.int .i64 0,.int .i64 0] 32)):=ba (Below.refl _ _) _;exact⟨W',h1,h2,hb.trans (h3.below (fun x hx=>by simp at hx;omega) hb.size)⟩
def q6r (bs:List Int) (w:World) (e:Ending) (w':World):Prop:=
 Below w.heap.size w w'/\((∃rs ps leaves pv xv fv kv,q1a bs rs ps/\rs.getLast?=some leaves/\
   e= .returned (.tuple #[.agg #[pv,xv,fv,kv,.int .i64 (rs.length-1:Int),.int .i64 (q2y rs)],.int .i64 0])/\
   w'.ownsRow w.heap.size 48 2 pv ps.length (ps.flatMap q5v)/\rowU w' w.heap.size xv (q2i rs leaves)/\rowU w' w.heap.size fv ((q2i rs leaves).filter fun a=>decide (a∉refA bs (nsI bs)))/\rowU w' w.heap.size kv ((refA bs (nsI bs)).filter fun a=>decide (a∉q2i rs leaves)))\/
  ((∀rs ps,¬q1a bs rs ps)/\e= .returned (.tuple #[.agg rep0,.int .i64 6])))
theorem z1n (l:List Int):∀xs:List Int,(l.foldl insA xs).length<=xs.length+l.length:=by
 induction l with
 | nil=>intro xs;simp
 | cons a l ih=>intro xs;have h1:=ih (insA xs a);have h2:=x1a xs a;rw[DT,BE];omega
theorem x2n {bs:List Int} (hb:∀x∈bs,0<=x/\x<256) {rs:List (List (Int×NodeA))} (h:q8z bs rs):rs.length<=16/\0<rs.length/\(∀row∈rs,row.length<=8320)/\ ∀row∈rs,∀x∈row,q1y bs x.1=some x.2/\x.1≠0:=by
 obtain⟨hs,_,n,hn,hr⟩:=h;have L:=q7l hn;have M:=q1s hs.1;have hp:=z0f hs.1;obtain⟨h1,h2⟩:=hr.chains hb L.1 (q8v hb (show 2<bs.length/8 by omega)).1;refine⟨by omega,by omega,fun row I=> ?_,fun row I x hx=> ?_⟩;·obtain⟨l,a,q1,q2⟩:=h2 row I;obtain⟨p,hw⟩:=q2.whole;have:=z0k hw hs.1 (q9y hb q2 q1);omega
 ·obtain⟨l,a,q1,q2⟩:=h2 row I;obtain⟨p,hw⟩:=q2.whole;exact⟨(hw.at' x hx).2.1,(hw.at' x hx).1⟩
theorem q4x.typ1 {W W':World} {N b:Nat} {v:Value} {rows:List (List (Int×NodeA))} {cs:Array Value} {t:TypeId} (h:q4x W N v rows) (hb:Blk W b t cs) (ho:Only [b] W W') (n1:t≠79) (n2:t≠51) (n3:t≠55):q4x W' N v rows:=h.typ ho (fun q hq=>⟨cs,t,by have e:=AF.1 hq;subst e;exact hb,n1,n2,n3⟩)
theorem q4x.ldg {W:World} {N g n c:Nat} {rows:List (List (Int×NodeA))} (h:q4x W N (.slice (some ⟨g,0,none⟩) n c) rows) (hn:n=rows.length) {i:Nat} {row:List (Int×NodeA)} (hi:rows[i]?=some row):
  ∃a1 c1 a2 c2,n<=c/\ ∀X,Below W.heap.size W X->RowD X N (.slice a1 row.length c1) (.slice a2 row.length c2) row/\X.cell? ⟨g,i*2,none⟩=some (.slice a1 row.length c1)/\X.cell? ⟨g,i*2+1,none⟩=some (.slice a2 row.length c2)/\
   ldR Tryz.prog 79 (.pointer (some ⟨g,i*2,none⟩)) X= .ok (.agg #[.slice a1 row.length c1,.slice a2 row.length c2]) X:=by
 obtain⟨g',a1,c1,a2,c2,e,h1,h2⟩:=h.ld hn hi;injection e with e;injection e with e;subst e;exact⟨a1,c1,a2,c2,h1,h2⟩
theorem x8q {rs:List (List (Int×NodeA))} {i:Nat} {row:List (Int×NodeA)} (h:rs[i]?=some row):allA (rs.take (i+1))=allA (rs.take i)++row.map (·.1):=by rw[Ai,h];exact q7d _ _
theorem z1c {rs:List (List (Int×NodeA))} {m:Nat} (h:∀row∈rs,row.length<=m) (i:Nat):(allA (rs.take i)).length<=rs.length*m:=by
 have:=x1n (rows:=rs.take i) (fun row hr=>h row (Ab hr));have h2:(rs.take i).length<=rs.length:=by rw[AU];omega
 exact AH this (Bp _ h2)
def TypF (f:List Nat) (W:World):Prop:= ∀k∈f,∃cs t,W.heap[k]?=some (.cells cs t (0,0))/\t≠79/\t≠51/\t≠55/\t≠166
theorem TypF.own {f:List Nat} {W W':World} (hf:TypF f W) (ho:Only f W W') {base size n:Nat} {e:TypeId} {v:Value} {xs:List Value} (h:W.ownsRow base e size v n xs) (he:e=79\/e=51\/e=55\/e=166):W'.ownsRow base e size v n xs:=
 ho.own h (fun k hk hm=>by
  obtain⟨_,cs,hc⟩:=q0l h k hk;obtain⟨L,t,I,n1,n2,n3,n4⟩:=hf k hm;rcases he with rfl|rfl|rfl|rfl;·exact q3w I hc n1
  ·exact q3w I hc n2
  ·exact q3w I hc n3
  ·exact q3w I hc n4)
theorem TypF.row {f:List Nat} {W W':World} (hf:TypF f W) (ho:Only f W W') {N:Nat} {v1 v2:Value} {row:List (Int×NodeA)} (h:RowD W N v1 v2 row):RowD W' N v1 v2 row:=⟨hf.own ho h.at' (Or.inr (Or.inl rfl)),hf.own ho h.nd (Or.inr (Or.inr (Or.inl rfl)))⟩
theorem TypF.blk {f:List Nat} {W W':World} (hf:TypF f W) (ho:Only f W W') {b:Nat} {cs:Array Value} (h:Blk W b 79 cs):Blk W' b 79 cs:=ho.blk h (fun hm=>by obtain⟨L,t,I,n1,_⟩:=hf b hm;exact q3w I h n1)
theorem DkA.tput {w:World} {b6 b7:Nat} {h nn:Int} {pr:Value} {ps:List (Int×ByteArray)} {v:Value} {xs:List Int} {W:World} (H:DkA w b6 b7 h nn pr ps v xs W):TypF [b7] W:=fun k hk=>by have e:=AF.1 hk;subst e;exact⟨_,_,H.set.blk,by decide,by decide,by decide,by decide⟩
theorem DkA.tpair {w:World} {b6 b7:Nat} {h nn:Int} {pr:Value} {ps:List (Int×ByteArray)} {v:Value} {xs:List Int} {W:World} (H:DkA w b6 b7 h nn pr ps v xs W):TypF (b6::pr.ownBlock.toList) W:=fun k hk=>by
 rcases AN.1 hk with e|e;·subst e;exact⟨_,_,H.k6,by decide,by decide,by decide,by decide⟩
 ·obtain⟨_,cs,hc⟩:=q0l H.prow k (by simpa[Option.mem_toList] using e);exact⟨cs,_,hc,by decide,by decide,by decide,by decide⟩
def q8m (leaves:List (Int×NodeA)) (i:Nat):List (Int×Int):=((List.range leaves.length).drop i).flatMap (actI leaves)
theorem x3z (leaves:List (Int×NodeA)):q8m leaves 0=allE leaves:=by unfold q8m allE;rw[CW]
theorem x5v (leaves:List (Int×NodeA)):q8m leaves leaves.length=[]:=by unfold q8m;rw[List.drop_eq_nil_of_le (by simp)];rfl
theorem x3d {leaves:List (Int×NodeA)} {i:Nat} (hi:i<leaves.length):q8m leaves i=actI leaves i++q8m leaves (i+1):=by unfold q8m;rw[Au (by simpa using hi),Ap];simp
structure DkB (bs:List Int) (w:World) (N1 b6 b7 b10:Nat) (rs:List (List (Int×NodeA))) (leaves:List (Int×NodeA)) (a1 a2:Option Addr) (ml c1 c2:Nat) (pr:Value) (ps:List (Int×ByteArray)) (v:Value) (done rest:List (Int×Int)) (W:World):Prop where
 a:DkA w b6 b7 (rs.length-1:Int) (q2y rs) pr ps v ((allA rs++done.map (·.2)).foldl insA []) W
 k10:Blk W b10 79 #[.slice a1 ml c1,.slice a2 ml c2]
 row:RowD W N1 (.slice a1 ml c1) (.slice a2 ml c2) leaves
 vt:VTo bs (allA rs) (allE leaves) done ps rest
section
variable {bs:List Int} {w:World} {N1 b6 b7 b10:Nat} {rs:List (List (Int×NodeA))} {leaves:List (Int×NodeA)} {a1 a2:Option Addr} {ml c1 c2:Nat} {pr:Value} {ps:List (Int×ByteArray)} {v:Value} {done rest:List (Int×Int)} {W W':World}
theorem DkB.bel2 (H:DkB bs w N1 b6 b7 b10 rs leaves a1 a2 ml c1 c2 pr ps v done rest W) (hb:Below W.heap.size W W'):DkB bs w N1 b6 b7 b10 rs leaves a1 a2 ml c1 c2 pr ps v done rest W':=⟨H.a.bel2 hb,H.k10.bel hb,H.row.bel hb,H.vt⟩
end
theorem v5m (p:Option Addr) (cap:Nat) (bs:List Int) (n:Nat) (hn:n=bs.length) (hl:n<=1000000) (w:World) (h:q1m w p cap bs):
  Calls Tryz.prog 16 #[.slice p n cap] w (q6r bs w):=by
 obtain⟨W1,v0⟩:∃W1,W1=w.alloc (.cells #[.slice none 0 0,.slice none 0 0,.slice none 0 0,.slice none 0 0,.int .i64 0,.int .i64 0] 32):=⟨_,rfl⟩;have vp:Below w.heap.size w W1:=by rw[v0];exact ba (Below.refl _ _) _
 have k2:Blk W1 w.heap.size 32 #[.slice none 0 0,.slice none 0 0,.slice none 0 0,.slice none 0 0,.int .i64 0,.int .i64 0]:=by rw[v0];exact Blk.new _ _ _
 have RW:Hid (Calls Tryz.prog 24 #[.slice p n cap] W1 (z0s bs W1)):=by
  by_cases hs:0<q0w bs.length;·exact hid (v4u p cap bs n hn hs W1 (q2d h vp))
  ·exact hid (v0m p cap bs n hn hs W1)
 have HN:=hid hn;have H:=hid h;have zl:=hid (⟨vp,k2⟩:_/\_);have HW:=hid v0;clear hn h vp k2 v0;go_enter Tryz.func16,Tryz.ntmps16;go_upto_region 1 with fail;rw[<- HW.out];clear HW;go_wp2_with fail;refine RW.out.mono ?_;rintro e w2 ⟨kt,(⟨rs,oa,oc,v5,rfl,hg⟩|⟨zk,rfl⟩)⟩
 ·obtain⟨K,hK⟩:∃K,K=rs.length:=⟨_,rfl⟩;rw[<- hK] at hg;rw[<- hK];have h4:=hid (x2n H.out.2.1 v5);have HK:=hid (⟨hK,by rw[hK];exact h4.out.1,by rw[hK];exact h4.out.2.1⟩:K=rs.length/\K<=16/\0<K);have zg:=hid v5;have x9:IntKind.i64.wrap ((K:Int)-1)=(K:Int)-1:=by rw[IntWalk.i64_in _ (by have:=HK.out.2.1;constructor<;>omega)]
  have qt:=v8g ((K:Int)-1) w2;obtain⟨W3,vh,k6,qj⟩:=v4c w2 ((K:Int)-1);obtain⟨W4,v2⟩:∃W4,W4=W3.alloc (.cells #[.slice none 0 0] 159):=⟨_,rfl⟩;have km:Below W3.heap.size W3 W4:=by rw[v2];exact ba (Below.refl _ _) _
  have k7:Blk W4 W3.heap.size 159 #[.slice none 0 0]:=by rw[v2];exact Blk.new _ _ _
  obtain⟨b6,zb⟩:∃b6,b6=w2.heap.size:=⟨_,rfl⟩;obtain⟨b7,z9⟩:∃b7,b7=W3.heap.size:=⟨_,rfl⟩;have vm:Hid (DkA w b6 b7 ((K:Int)-1) 0 (.slice none 0 0) [] (.slice none 0 0) [] W4/\q4x W4 W1.heap.size (.slice oa K oc) rs):=by have z1:=zl.out.2.lt;have z2:=kt.size;have z3:=qj.size;have z6:=k6.lt;refine hid ⟨⟨((zl.out.2.bel kt).bel qj).bel km,by rw[zb];exact k6.bel km,⟨by rw[z9];exact k7,World.ownsRow_nil _ _ _ _,by have:=zl.out.1.size;omega,by simp[Value.ownBlock]⟩,World.ownsRow_nil _ _ _ _,bx (bx (bx zl.out.1 kt) qj) km,by omega,by omega⟩,(hg.bel qj).bel km⟩
  have x5:=hid v2;have vo:=hid (⟨zb,z9⟩:_/\_);clear hg kt qj km k6 k7 hK v5 v2 zb z9;go_upto_region 6 with fail;rw[<- vo.out.2,<- x5.out,<- vo.out.1];clear vo x5 vh qt;obtain⟨go,e0⟩:∃go,oa=some ⟨go,0,none⟩:=by obtain⟨g,_,_,_,_,e,_⟩:=vm.out.2.ld HK.out.1 (i:=0) (row:=rs[0]'(by have:=HK.out;omega)) (AD (by have:=HK.out;omega));exact⟨g,e⟩
  subst e0;go_wp2;go_loopw [8] (fun iv wr=> ∃(i:Nat) (v:Value),i<=K/\iv= .int .i64 (i:Int)/\Hid (DkA w b6 b7 ((K:Int)-1) (q4q rs i) (.slice none 0 0) [] v ((allA (rs.take i)).foldl insA []) wr/\q4x wr W1.heap.size (.slice (some ⟨go,0,none⟩) K oc) rs)) (fun iv _=>K- (intOf iv).toNat);case atStart=>exact⟨0,_,Af _,rfl,vm⟩
  case round=>
   obtain⟨i,v,hi,rfl,hI⟩:=hrel;obtain⟨wA,rfl⟩:∃x,x=wr:=⟨_,rfl⟩;by_cases hik:i<K
   ·obtain⟨row,kx⟩:∃row,rs[i]?=some row:=⟨_,AD (by have:=HK.out.1;omega)⟩;have i1:(i:Int)< (K:Int):=by omega
    have i0:(0:Int)<=(i:Int):=by omega
    obtain⟨m,hm⟩:∃m,m=row.length:=⟨_,rfl⟩;have HR:=hid (⟨kx,hm,by rw[hm];exact h4.out.2.2.1 row (AJ kx)⟩:rs[i]?=some row/\m=row.length/\m<=8320);have vg:=hid hik;have yr:i<16:=by have:=HK.out.2.1;omega
    have yp:Hid (DkA w b6 b7 ((K:Int)-1) (q4q rs i+((0:Nat):Int)) (.slice none 0 0) [] v ((allA (rs.take i)++(row.take 0).map (·.1)).foldl insA []) wA/\q4x wA W1.heap.size (.slice (some ⟨go,0,none⟩) K oc) rs):=by have:=hI.out;rw[Cp,List.map_nil,Bx,Int.natCast_zero,Int.add_zero];exact hid this
    clear kx hm hik hi hI;go_wp2;go_loopw [9] (fun kv wr=> ∃(k:Nat) (v:Value),k<=m/\kv= .int .i64 (k:Int)/\Hid (DkA w b6 b7 ((K:Int)-1) (q4q rs i+(k:Int)) (.slice none 0 0) [] v ((allA (rs.take i)++(row.take k).map (·.1)).foldl insA []) wr/\q4x wr W1.heap.size (.slice (some ⟨go,0,none⟩) K oc) rs)) (fun kv _=>m- (intOf kv).toNat);case atStart=>exact⟨0,v,Af _,rfl,yp⟩
    case round=>
     obtain⟨k,v,hk,rfl,hJ⟩:=hrel;obtain⟨wB,rfl⟩:∃x,x=wr:=⟨_,rfl⟩;obtain⟨a1,c1,a2,c2,xd,kj⟩:=hJ.out.2.ldg HK.out.1 HR.out.1;obtain⟨hg,y1,_,_⟩:=kj wB (Below.refl _ _);rw[<- HR.out.2.1] at y1 hg;by_cases hkm:k<m
     ·obtain⟨x,hx⟩:∃x,row[k]?=some x:=⟨_,AD (by have:=HR.out.2.1;omega)⟩;have k1:(k:Int)< (m:Int):=by omega
      have k0:(0:Int)<=(k:Int):=by omega
      obtain⟨ga,e1,j8,y2⟩:=hg.addr HR.out.2.1 hx;subst e1
      have qc:((allA (rs.take i)++(row.take k).map (·.1)).foldl insA []).length<=1000000:=by
       have q1:=z1n (allA (rs.take i)++(row.take k).map (·.1)) [];have q2:=z1c h4.out.2.2.1 i;have q3:rs.length*8320<=16*8320:=Bp _ h4.out.1;have q4:(row.take k).length<=m:=by rw[AU];have:=HR.out.2.1;omega
       rw[AI,AO,Cf] at q1;have:=HR.out.2.2;omega
      have xa:=h4.out.2.2.2 row (AJ HR.out.1) x (AJ hx);have PT:=hid (x5x w.heap.size b7 v _ x.1 wB hJ.out.1.set hJ.out.1.bel.size qc xa.2);have HX:=hid (⟨hx,by rw[Ai,hx,Ah];rfl⟩:row[k]?=some x/\(row.take (k+1)).map (·.1)=(row.take k).map (·.1)++[x.1]);have xi:=hid hkm;have j7:k<8320:=by have:=HR.out.2.2;omega
      clear hx hkm hk qc xa hg kj;go_wp2_with fail;refine PT.out.mono ?_;rintro e w5 ⟨⟨r,rfl⟩,⟨v',ha,_⟩,ho⟩;have q9:=hJ.out.1.put ha ho;have x2:=hJ.out.2.typ1 hJ.out.1.set.blk ho (by decide) (by decide) (by decide);obtain⟨vy,xf⟩:=q9.node (q4q rs i+(k:Int)+1);have x6:=x2.typ1 q9.k6 xf (by decide) (by decide) (by decide);have z5:w5.cell? ⟨b6,5,none⟩=some (.int .i64 (q4q rs i+(k:Int))):=q9.k6.cell 5;have zf:=q9.k6.frozen 5;have xj:Hid (DkA w b6 b7 ((K:Int)-1) (q4q rs i+((k+1:Nat):Int)) (.slice none 0 0) [] v' ((allA (rs.take i)++(row.take (k+1)).map (·.1)).foldl insA []) (w5.setCell ⟨b6,5,none⟩ (.int .i64 (q4q rs i+(k:Int)+1)))/\q4x (w5.setCell ⟨b6,5,none⟩ (.int .i64 (q4q rs i+(k:Int)+1))) W1.heap.size (.slice (some ⟨go,0,none⟩) K oc) rs):=by rw[HX.out.2,<- BB,Co,show q4q rs i+((k+1:Nat):Int)=q4q rs i+(k:Int)+1 by omega];exact hid ⟨vy,x6⟩
      have xr:=z4r h4.out.2.2.1 i (by have:=HK.out.1;have:=vg.out;omega)
      have yk:0<=q4q rs i/\q4q rs i<=133120:=by
       have q3:(i:Int)*((8320:Nat):Int)<=16*8320:=by omega
       omega
      have jd:IntKind.i64.wrap (q4q rs i+(k:Int)+1)=q4q rs i+(k:Int)+1:=by rw[IntWalk.i64_in _ (by constructor<;>omega)]
      clear ha ho q9 x2 vy xf x6 xr hJ;go_wp2;go_roundw;case rel=>exact⟨k+1,v',xi.out,by go_num,xj⟩
      case measure=>simp[intOf];have:=xi.out;omega
     ·obtain rfl:k=m:=by omega
      have k1: ¬(k:Int)< (k:Int):=by omega
      have HN:Hid (DkA w b6 b7 ((K:Int)-1) (q4q rs (i+1)) (.slice none 0 0) [] v ((allA (rs.take (i+1))).foldl insA []) wB/\q4x wB W1.heap.size (.slice (some ⟨go,0,none⟩) K oc) rs):=by have:=hJ.out;have e:=HR.out.2.1;rw[z0w HR.out.1,x8q HR.out.1,<- e];rw[e,BH,<- e] at this;exact hid this
      clear hk hkm hJ;go_wp2;go_roundw;case rel=>exact⟨i+1,v,vg.out,by go_num,HN⟩
      case measure=>simp[intOf];have:=vg.out;omega
   ·obtain rfl:K=i:=by omega
    have i1: ¬(K:Int)< (K:Int):=by omega
    obtain⟨q,hq⟩:∃q,K-1=q:=⟨_,rfl⟩;obtain⟨leaves,h5⟩:∃leaves,rs[q]?=some leaves:=⟨_,AD (by have:=HK.out;omega)⟩;have qx:=hid (show rs.getLast?=some leaves by rw[BW,<- HK.out.1,hq];exact h5);have xt:IntKind.i64.wrap ((K:Int)-1)=(q:Int):=by rw[x9];have:=HK.out.2.2;omega
    have q0:(0:Int)<=(q:Int):=by omega
    have q1:(q:Int)< (K:Int):=by have:=HK.out.2.2;omega
    obtain⟨a1,c1,a2,c2,xd,kj⟩:=hI.out.2.ldg HK.out.1 h5;obtain⟨hg,_,_,vz⟩:=kj wA (Below.refl _ _);obtain⟨ml,qy⟩:∃ml,ml=leaves.length:=⟨_,rfl⟩;rw[<- qy] at hg vz;obtain⟨W5,v4,k10,zh⟩:=z5i wA a1 a2 ml c1 ml c2;have k4:=hid (⟨qy,by rw[qy];exact h4.out.2.2.1 leaves (AJ h5)⟩:ml=leaves.length/\ml<=8320);have qi:Hid (DkB bs w W1.heap.size b6 b7 wA.heap.size rs leaves a1 a2 ml c1 c2 (.slice none 0 0) [] v [] (q8m leaves 0) W5):=by have h1:=hI.out.1;rw[HK.out.1,z6f,BH] at h1;refine hid ⟨?_,k10,hg.bel zh,by rw[x3z];exact VTo.start _ _ _⟩;rw[List.map_nil,Bx];exact h1.bel2 zh
    have xx:=hid (show(∀qs,¬q4m bs (allA rs) (allE leaves) qs)-> ∀qz qm,¬q1a bs qz qm from fun hn qz qm hw=>by obtain⟨n1,yf,yy⟩:=hw.rows;obtain⟨n2,qp,ye⟩:=zg.out.2.2;rw[yf] at qp;injection qp with qp;subst qp;have e:=yy.det ye;subst e;obtain⟨lv,h1,h2⟩:=hw.vals;rw[qx.out] at h1;injection h1 with h1;subst h1;exact hn _ h2);obtain⟨b10,ky⟩:∃b10,b10=wA.heap.size:=⟨_,rfl⟩;rw[<- ky] at qi;have qg:=hid ky;clear x9 hq h5 kj hg qy k10 zh hI hi hik xd ky;go_upto_region 15 with fail;rw[<- qg.out];clear qg v4 vz;go_wp2;go_loopw [11] (fun iv wr=> ∃(i:Nat) (pr:Value) (ps:List (Int×ByteArray)) (v:Value) (done:List (Int×Int)),i<=ml/\iv= .int .i64 (i:Int)/\Hid (DkB bs w W1.heap.size b6 b7 b10 rs leaves a1 a2 ml c1 c2 pr ps v done (q8m leaves i) wr)) (fun iv _=>ml- (intOf iv).toNat);case atStart=>exact⟨0,_,_,_,_,Af _,rfl,qi⟩
    case round=>
     obtain⟨i,pr,ps,v,done,hi,rfl,hI⟩:=hrel;obtain⟨wA,rfl⟩:∃x,x=wr:=⟨_,rfl⟩;have y0:wA.cell? ⟨b10,1,none⟩=some (.slice a2 ml c2):=hI.out.k10.cell 1;by_cases him:i<ml
     ·obtain⟨x,hx⟩:∃x,leaves[i]?=some x:=⟨_,AD (by have:=k4.out.1;omega)⟩;have i1:(i:Int)< (ml:Int):=by omega
      have i0:(0:Int)<=(i:Int):=by omega
      have kj:=q8b hI.out.k10;have HG:=hid (z9w _ ml c1 c2 a1 a2 leaves i wA hI.out.row k4.out.1 (by have:=k4.out.2;omega) him);have HX:=hid (⟨hx,him⟩:leaves[i]?=some x/\i<ml);have yn:i<8320:=by have:=k4.out.2;omega
      clear hx him hi;go_wp2_with fail;refine HG.out.mono ?_;rintro e w4 ⟨rfl,km⟩;obtain⟨hh,vd⟩:∃hh,hh=q2a leaves i:=⟨_,rfl⟩;obtain⟨hs,z4⟩:∃hs,hs=hasI leaves i:=⟨_,rfl⟩;rw[<- vd,<- z4];have vr:=hid (show actI leaves i=q1n x.2 hh hs by unfold actI;rw[HX.out.1,vd,z4];rfl);have qn:=hid (hI.out.bel2 km);have vl:w4.cell? ⟨b10,1,none⟩=some (.slice a2 ml c2):=qn.out.k10.cell 1;obtain⟨g2,e2,y4,kg⟩:=qn.out.row.nodeL k4.out.1 HX.out.1;subst e2;have yo:=(kg w4 (Below.refl _ _)).2;have yh:=hid (z4j x.2 hh hs w4);clear kg y4 km vd z4 y0 kj hI;go_wp2_with fail;refine yh.out.mono ?_;rintro e w5 ⟨lv,rfl,O,zh⟩;obtain⟨la,lc,rfl⟩:=q0q O;obtain⟨l,qf⟩:∃l,l=q1n x.2 hh hs:=⟨_,rfl⟩;rw[<- qf] at O vr;rw[<- qf];obtain⟨m,hm⟩:∃m,m=l.length:=⟨_,rfl⟩;rw[<- hm] at O;rw[<- hm];have HL:=hid (⟨hm,by rw[hm,qf];exact z4h _ _ _⟩:m=l.length/\m<=8);have qi:Hid (DkB bs w W1.heap.size b6 b7 b10 rs leaves a1 (some ⟨g2,0,none⟩) ml c1 c2 pr ps v done (l.drop 0++q8m leaves (i+1)) w5/\w5.ownsRow w4.heap.size 166 2 (.slice la m lc) m (l.flatMap entC)):=by have h1:=qn.out.bel2 zh;rw[x3d (by have:=HX.out.2;have:=k4.out.1;omega),vr.out] at h1;rw[CW];exact hid ⟨h1,O⟩
      have HU:=hid (fun(y:Int×Int) (hy:y∈l)=>x7w H.out.2.1 (h4.out.2.2.2 leaves (Bo qx.out) x (AJ HX.out.1)).1 (by rw[<- qf];exact hy));clear O zh qf hm yo vl qn;go_wp2;go_loopw [15] (fun qv wr=> ∃(q:Nat) (pr:Value) (ps:List (Int×ByteArray)) (v:Value) (done:List (Int×Int)),q<=m/\qv= .int .i64 (q:Int)/\Hid (DkB bs w W1.heap.size b6 b7 b10 rs leaves a1 (some ⟨g2,0,none⟩) ml c1 c2 pr ps v done (l.drop q++q8m leaves (i+1)) wr/\wr.ownsRow w4.heap.size 166 2 (.slice la m lc) m (l.flatMap entC))) (fun qv _=>m- (intOf qv).toNat);case atStart=>exact⟨0,pr,ps,v,done,Af _,rfl,qi⟩
      case round=>
       obtain⟨q,pr,ps,v,done,hq,rfl,hJ⟩:=hrel;obtain⟨wB,rfl⟩:∃x,x=wr:=⟨_,rfl⟩;by_cases hqm:q<m
       ·obtain⟨y,hy⟩:∃y,l[q]?=some y:=⟨_,AD (by have:=HL.out.1;omega)⟩;have q1:(q:Int)< (m:Int):=by omega
        have q0:(0:Int)<=(q:Int):=by omega
        obtain⟨g,cg,e3,_,j2,yg,qe⟩:=q6o hJ.out.2 (by omega);injection e3 with e3 _ e4;subst e3 e4;have hE:=q1l.of_own (by have:=hJ.out.2;rw[HL.out.1] at this;exact this);have y1:wB.cell? ⟨g,q*2,none⟩=some (.int .u64 y.1):=by have:=qe (q*2) _ (q8f l q y hy).1;rwa[AQ] at this
        have y2:wB.cell? ⟨g,q*2+1,none⟩=some (.int .u64 y.2):=by have:=qe (q*2+1) _ (q8f l q y hy).2;rwa[AQ] at this
        have vj:=HU.out y (AJ hy);have vv:l.drop q++q8m leaves (i+1)=y::(l.drop (q+1)++q8m leaves (i+1)):=by have xl:=(AE.1 hy).1;rw[Au xl,(AE.1 hy).2];rfl
        have hV:=hJ.out.1.vt;rw[vv] at hV;obtain⟨R,hR⟩:∃R,R=allA rs++done.map (·.2):=⟨_,rfl⟩;obtain⟨X,hX⟩:∃X,X=R.foldl insA []:=⟨_,rfl⟩;have x8:∀a,a∈X↔a∈R:=fun a=>by rw[hX,(z2h R [] List.Pairwise.nil).2];simp
        have hA:=hJ.out.1.a;rw[<- hR,<- hX] at hA
        have vq:X.length<=1000000/\ps.length<=1000000:=by
         have q1:=z1n R [];have q2:=z1c h4.out.2.2.1 rs.length;have q3:rs.length*8320<=16*8320:=Bp _ h4.out.1;have q4:=z1h leaves;have q5:=k4.out;have q6:done.length<=(allE leaves).length:=by rw[hV.all];simp
         have q7:=hV.len;rw[BH] at q2;rw[<- hX,Cf,hR,AI,AO] at q1;omega
        have qq:=x2h p cap bs n HN.out hl y.2 vj wB (q2d H.out hA.bel);obtain⟨c,hc⟩:∃c,c=clsI bs y.2:=⟨_,rfl⟩;rw[<- hc] at qq;have qq:=hid qq;have xe:=hid (x2d w.heap.size b7 v X y.2 wB hA.set (by have:=vq.1;omega));have HV:=hid (⟨hV,vj,hR,hX,x8,vq,hc⟩:_/\_/\_/\_/\_/\_/\_);have ql:=hid hA;have v8:=hid hqm;have yd:=hid hy;have zx:=hid (fun(zk:∀s,¬v1b bs R y s)=>xx.out (hV.no (by rw[<- hR];exact zk)));have jb:q<8:=by have:=HL.out.2;omega
        clear hy hE vj vv hV hR hX x8 hA vq hc hqm hq qe yg;go_wp2_with fail;refine qq.out.mono ?_;rintro e w5 ⟨rfl,rfl⟩;go_upto_region 24 with fail;go_cut [122] from 108 to 122 (fun s wc=>s= .bool (decide (¬(c=1\/c=2)\/y.2∈X))/\Hid (wc=wB))
        case first=>
         by_cases h1:c=1
         ·have b1:(c !=1)=false:=by simp[h1]
          have HD:=hid (show decide (¬(c=1\/c=2)\/y.2∈X)=decide (y.2∈X) by simp[h1]);clear h1;go_wp2_with fail;refine xe.out.mono ?_;rintro e w1 ⟨rfl,rfl⟩;go_wp2_with fail;go_meet;exact⟨by rw[HD.out],rfl⟩
         ·by_cases h2:c=2
          ·have b1:(c !=1)=true:=by simp[h2]
           have b2:(c !=2)=false:=by simp[h2]
           have HD:=hid (show decide (¬(c=1\/c=2)\/y.2∈X)=decide (y.2∈X) by simp[h2]);clear h1 h2;go_wp2_with fail;refine xe.out.mono ?_;rintro e w1 ⟨rfl,rfl⟩;go_wp2_with fail;go_meet;exact⟨by rw[HD.out],rfl⟩
          ·have b1:(c !=1)=true:=by simpa using h1
           have b2:(c !=2)=true:=by simpa using h2
           have HD:=hid (show decide (¬(c=1\/c=2)\/y.2∈X)=true by simp[h1,h2]);clear h1 h2;go_wp2_with fail;go_meet;exact⟨by rw[HD.out],rfl⟩
        case rest=>
         obtain⟨rfl,vx⟩:=hcut;obtain rfl:=vx.out;clear vx;have xh:Hid (∀(W:World),Blk W w.heap.size 32 rep0->Below w.heap.size w W->(∀qz qm,¬q1a bs qz qm)->(stR Tryz.prog 32 (.pointer (some ⟨w.heap.size,0,none⟩)) (.agg rep0) W= .ok () W/\lvR Tryz.prog 32 ⟨w.heap.size,0,none⟩ W= .ok (.agg rep0) W/\q6r bs w (.returned (.tuple #[.agg rep0,.int .i64 6])) W)):=hid fun W hk hb zk=>⟨hk.st_same (P:=Tryz.prog) (ty:=32) (by kernel_rfl) (by kernel_rfl),hk.lv (P:=Tryz.prog) (ty:=32) Tryz.underlying32 rfl (by kernel_rfl),hb,Or.inr ⟨zk,rfl⟩⟩;by_cases hbad: ¬(c=1\/c=2)\/y.2∈X
         ·rw[AT hbad];have qt:=z2j wc
          obtain⟨zq,h5,hF⟩:=xh.out wc ql.out.k2 ql.out.bel (zx.out (fun s hs=>by
           rcases hbad with h|h;·exact h (by rw[HV.out.2.2.2.2.2.2];exact hs.2.1)
           ·exact hs.1 ((HV.out.2.2.2.2.1 y.2).1 h)))
          have HF:=hid hF;clear hbad hF y1 y2;go_wp2;refine bodyPost_ret (v:= .tuple #[.agg rep0,.int .i64 6]) (q0y rfl _ _ _ _ _ rfl rfl h5) rfl ?_;exact HF.out
         ·rw[AK hbad];have zi:c=1\/c=2:=Classical.byContradiction fun h=>hbad (Or.inl h);have xb:y.2∉X:=fun h=>hbad (Or.inr h);obtain⟨k,x7,hk,yt⟩:=x2l HV.out.2.2.2.2.2.2.symm zi HV.out.2.1.1 zg.out.1.1;obtain⟨m8,vf⟩:∃m8,m8=8*c.toNat:=⟨_,rfl⟩;have w8:IntKind.i64.wrap (8*c)=(m8:Int):=by rw[IntWalk.i64_in _ (by rcases zi with h|h<;>rw[h]<;>decide)];rcases zi with h|h<;>rw[vf,h]<;>decide
          have WD:=z6z p cap bs n HN.out hl (8*k) m8 (by have:=HN.out;omega) wc (q2d H.out ql.out.bel);have ea:((8*k:Nat):Int)=y.2:=by omega
          rw[ea] at WD;obtain⟨s,ev,z4⟩:=z4d c (blkN bs y.2);have PA:=hid (fun(N:Nat) (v:Value) (W:World) (h:rowW W N v (q3o bs y.2 m8))=>(show Calls Tryz.prog 77 #[.int .i64 c,v] W fun e w'=>e= .returned (.tuple #[.string s,.int .i64 ev])/\Below W.heap.size W w' from by have:=x9e H.out.2.1 y.2 k c HV.out.2.2.2.2.2.2.symm zi x7 hk W (by rw[<- vf];exact h);rw[z4] at this;exact this));have WD:=hid WD;have zz:=hid (⟨zi,xb,z4,by omega⟩:(c=1\/c=2)/\y.2∉X/\q2m c (blkN bs y.2)= .tuple #[.string s,.int .i64 ev]/\y.2≠0);clear zi xb x7 hk yt vf ea z4 hbad;go_wp2_with fail;refine WD.out.mono ?_;rintro e w6 ⟨zb,u,rfl,hu⟩;have ym:=hid (PA.out _ _ _ hu);clear hu;go_wp2_with fail;refine ym.out.mono ?_;rintro e w7 ⟨rfl,z9⟩;have zj:=hid ((ql.out.bel2 zb).bel2 z9);have q8:=hid (bx zb z9);have x3:w7.cell? ⟨g,q*2,none⟩=some (.int .u64 y.1):=(q8.out.cell (p:=⟨g,q*2,none⟩) (World.block_lt_of_cell? wc _ y1)).trans y1;have x0:w7.cell? ⟨g,q*2+1,none⟩=some (.int .u64 y.2):=(q8.out.cell (p:=⟨g,q*2+1,none⟩) (World.block_lt_of_cell? wc _ y2)).trans y2;clear zb z9 y1 y2;by_cases hev:ev=0
          ·have be:(ev !=0)=false:=by simp[hev]
           have PT:=hid (x5x w.heap.size b7 v X y.2 w7 zj.out.set zj.out.bel.size HV.out.2.2.2.2.2.1.1 zz.out.2.2.2);have y3:=hid hev;clear hev;go_wp2_with fail;refine PT.out.mono ?_;rintro e qd ⟨⟨r,rfl⟩,⟨v',ha,_⟩,ho⟩;have zo:=zj.out.put ha ho;obtain⟨va,vc,w9,L,z0,zf,v9,kk⟩:=zo.pair (y.1,s) HV.out.2.2.2.2.2.1.2;have t7:=zj.out.tput;have t8:=zo.tpair;have zc:=t8.blk kk (t7.blk ho (hJ.out.1.k10.bel q8.out));have za:=t8.row kk (t7.row ho (hJ.out.1.row.bel q8.out));have ze:=t7.own ho ((Only.of_below q8.out []).own hJ.out.2 (by simp)) (Or.inr (Or.inr (Or.inr rfl)));have kq:=t8.own kk ze (Or.inr (Or.inr (Or.inr rfl)));have ee:(allA rs++(done++[y]).map (·.2)).foldl insA []=insA X y.2:=by rw[Ah,<- BB,Co,<- HV.out.2.2.1,<- HV.out.2.2.2.1];rfl
           have x4:=HV.out.1.next (s:=s) ⟨by rw[<- HV.out.2.2.1];exact fun h=>zz.out.2.1 ((HV.out.2.2.2.2.1 y.2).2 h),by rw[<- HV.out.2.2.2.2.2.2];exact zz.out.1,by rw[<- HV.out.2.2.2.2.2.2,zz.out.2.2.1,y3.out]⟩
           obtain⟨W9,he⟩:∃W9,W9=w9.setCell ⟨b6,0,none⟩ (.slice va (ps.length+1) vc):=⟨_,rfl⟩;rw[<- he] at v9 zc za kq;have yj:Hid (DkB bs w W1.heap.size b6 b7 b10 rs leaves a1 (some ⟨g2,0,none⟩) ml c1 c2 (.slice va (ps.length+1) vc) (ps++[(y.1,s)]) v' (done++[y]) (l.drop (q+1)++q8m leaves (i+1)) W9/\W9.ownsRow w4.heap.size 166 2 (.slice (some ⟨g,0,none⟩) m lc) m (l.flatMap entC)):=hid ⟨⟨by rw[ee];exact v9,zc,za,x4⟩,kq⟩;have ya:qd.cell? ⟨g,q*2,none⟩=some (.int .u64 y.1):=by obtain⟨g',j3,e3,_,_,_,qe⟩:=q6o ze (by have:=v8.out;omega);injection e3 with e3;injection e3 with e3;injection e3 with e3;have:=qe (q*2) _ (q8f l q y yd.out).1;rw[AQ,<- e3] at this;exact this
           have vk:qd.drew.cell? ⟨g,q*2,none⟩=some (.int .u64 y.1):=ya;have g0:qd.cell? ⟨b6,0,none⟩=some pr:=zo.k6.cell 0;have j9:qd.drew.cell? ⟨b6,0,none⟩=some pr:=g0;have j4:(qd.alloc (.cells #[.int .u64 y.1,.string s] 48)).drew.cell? ⟨b6,0,none⟩=some pr:=(zo.k6.alloc _).cell 0;have h9:=hid L;have zp:=hid he;clear ha ho zo L v9 kk t7 t8 zc za ze kq ee x4 he x3 x0 vk;go_wp2_with fail;refine Code.wp_mono (Q:=q5y _) q5y.imp ?_;refine z1q (X:= ?X) (fun key=> ?_) ?_
           rotate_left
           ·go_region_law (refine q1k rfl (.tmp 149) (.tmp 157) 29 29 rfl _ _ (by simp[Act.eval,Act.put]) (by simp[Act.eval,Act.put]) h9.out ?_)
            all_goals
             try go_simp
             try simp only[Act.put,List.setIfInBounds_toArray,List.set_cons_zero,List.set_cons_succ]
             exact key.out
           refine q5y.normal ?_;rw[<- zp.out];go_wp2;go_roundw;case rel=>exact⟨q+1,_,_,_,_,v8.out,by go_num,yj⟩
           case measure=>simp[intOf];have:=v8.out;omega
          ·have be:(ev !=0)=true:=by simpa using hev
           have qt:=z2j w7;obtain⟨zq,h5,hF⟩:=xh.out w7 zj.out.k2 zj.out.bel (zx.out (fun s' hs=>hev (by have:=hs.2.2;rw[<- HV.out.2.2.2.2.2.2,zz.out.2.2.1] at this;injection this with this;have:=congrArg (fun a:Array Value=>a[1]?) this;simpa using this)));have HF:=hid hF;clear hev hF x3 x0;go_wp2;refine bodyPost_ret (v:= .tuple #[.agg rep0,.int .i64 6]) (q0y rfl _ _ _ _ _ rfl rfl h5) rfl ?_;exact HF.out
       ·obtain rfl:q=m:=by omega
        have q1: ¬(q:Int)< (q:Int):=by omega
        have k8:Hid (DkB bs w W1.heap.size b6 b7 b10 rs leaves a1 (some ⟨g2,0,none⟩) ml c1 c2 pr ps v done (q8m leaves (i+1)) wB):=by have h1:=hJ.out.1;rw[HL.out.1,List.drop_length,Bi] at h1;exact hid h1
        clear hq hqm hJ;go_wp2;go_roundw;case rel=>exact⟨i+1,pr,ps,v,done,HX.out.2,by go_num,k8⟩
        case measure=>simp[intOf];have:=HX.out.2;omega
     ·obtain rfl:ml=i:=by omega
      have i1: ¬(ml:Int)< (ml:Int):=by omega
      have v7:=hI.out.vt;rw[k4.out.1,x5v] at v7;obtain⟨ko,y5⟩:=v7.done;subst y5;have xv:=hid (show q1a bs rs ps from⟨zg.out.1,zg.out.2.1,zg.out.2.2,leaves,qx.out,ko⟩);obtain⟨X,hX⟩:∃X,X=q2i rs leaves:=⟨_,rfl⟩;have hA:=hI.out.a;have v6:(allA rs++(allE leaves).map (·.2)).foldl insA []=X:=hX.symm;rw[v6] at hA;obtain⟨va,vc,rfl⟩:=q0q hA.set.row;obtain⟨pa,pc,rfl⟩:=q0q hA.prow;obtain⟨xn,vi⟩:∃xn,xn=X.length:=⟨_,rfl⟩;obtain⟨pn,vn⟩:∃pn,pn=ps.length:=⟨_,rfl⟩;rw[<- vi,<- vn] at hA;have xc:X.length<=1000000:=by have q1:=z1n (allA rs++(allE leaves).map (·.2)) [];have q2:=z1c h4.out.2.2.1 rs.length;have q3:rs.length*8320<=16*8320:=Bp _ h4.out.1;have q4:=z1h leaves;have q5:=k4.out;rw[BH] at q2;rw[v6,Cf,AI,AO] at q1;omega
      have y6:wA.cell? ⟨b7,0,none⟩=some (.slice va xn vc):=hA.set.blk.cell 0;have yz:wA.cell? ⟨b6,1,none⟩=some (.slice none 0 0):=hA.k6.cell 1;have jc:=hA.k6.frozen 1;obtain⟨kb,k3⟩:∃kb,kb=wA.setCell ⟨b6,1,none⟩ (.slice va xn vc):=⟨_,rfl⟩;have qk:Only [b6] wA kb:=by rw[k3];exact(Only.refl _ _).setCell (Or.inl (by simp)) _
      have k10:Blk kb b6 32 #[.slice pa pn pc,.slice va xn vc,.slice none 0 0,.slice none 0 0,.int .i64 (rs.length-1:Int),.int .i64 (q2y rs)]:=by rw[k3];exact hA.k6.set_ 1 _
      have hlt:=hA.lt;have kf:q2x kb w.heap.size b7 (.slice va xn vc) X:=hA.set.only qk (by simp;omega) (fun k hk hm=>by obtain⟨_,cs,hc⟩:=q0l hA.set.row k hk;rw[AF.1 hm] at hc;exact q3w hA.k6 hc (by decide));have hf:=qk.own hA.prow (fun k hk hm=>by obtain⟨_,cs,hc⟩:=q0l hA.prow k hk;rw[AF.1 hm] at hc;exact q3w hA.k6 hc (by decide));have zy:=qk.blk hA.k2 (by simp;omega);have h8:=hA.bel.trans (qk.below (B:=w.heap.size) (fun x hx=>by simp at hx;omega) hA.bel.size);have xy:=q1s zg.out.1.1;obtain⟨ns,xk⟩:∃ns:Nat,q0w bs.length=ns:=⟨(q0w bs.length).toNat,by omega⟩;have zv:nsI bs=ns:=by unfold nsI;omega
      have OF:=v8i p cap bs ns (by omega) (by omega) kb (q2d H.out h8);rw[<- HN.out] at OF;have OF:=hid OF;have HP:=hid (⟨k10,kf,hf,zy,h8,hlt⟩:_/\_/\_/\_/\_/\_);have kh:=hid (⟨zv,fun i h1 h2=>zg.out.1.2 i h1 (by omega),by omega⟩:nsI bs=ns/\(∀i,1<=i->i<=ns->q2k bs i=true)/\1<=ns/\ns<=64);have hj:=hid (⟨hX,vi,vn,xc⟩:_/\_/\_/\_);have zr:=hid k3;clear v7 ko hX v6 hA vi vn xc qk k10 kf hf zy h8 xy xk zv k3 him hi hlt vm qi;go_wp2_with fail;rw[<- zr.out];refine OF.out.mono ?_;intro e zm hp;obtain⟨gw,vC,vL,rfl,xg⟩:=hp.yes kh.out.2.1;have qb:=hid hp.bel
      have US:=v4l _ gw _ _ _ vC vL zm xg (by have:=z1f bs ns;have:=kh.out.2.2;omega) (fun x hx=>by
       have h1:x.1∈refA bs ns:=by rw[<- z5b];exact Aj.2 ⟨x,hx,rfl⟩
       have:=x9w kh.out.2.2.2 kh.out.2.1 x.1 h1;omega)
      rw[x6q kh.out.2.2.2 kh.out.2.1] at US;have US:=hid US;clear xg hp;go_wp2_with fail;refine US.out.mono ?_;rintro e v3 ⟨⟨uv,rfl,zn⟩,kp⟩;obtain⟨U,hU⟩:∃U,U=refA bs ns:=⟨_,rfl⟩;rw[<- hU] at zn;obtain⟨ua,uc,rfl⟩:=q0q zn;obtain⟨un,qo⟩:∃un,un=U.length:=⟨_,rfl⟩;rw[<- qo] at zn;obtain⟨M,hz⟩:∃M,M=v3.alloc (.cells #[.slice ua un uc] 159):=⟨_,rfl⟩;have z7:Below v3.heap.size v3 M:=by rw[hz];exact ba (Below.refl _ _) _
      have Y:=hid (bx (bx qb.out kp) z7);obtain⟨ht,k9⟩:∃ht,ht=v3.heap.size:=⟨_,rfl⟩;have HZ:Hid (w.heap.size<=kb.heap.size/\kb.heap.size<=zm.heap.size/\zm.heap.size<=ht/\b6<kb.heap.size):=hid ⟨HP.out.2.2.2.2.1.size,qb.out.size,by rw[k9];exact kp.size,HP.out.1.lt⟩
      have HS:Hid (q2x M w.heap.size b7 (.slice va xn vc) X/\q2x M zm.heap.size ht (.slice ua un uc) U/\M.ownsRow w.heap.size 48 2 (.slice pa pn pc) ps.length (ps.flatMap q5v)/\Blk M w.heap.size 32 #[.slice none 0 0,.slice none 0 0,.slice none 0 0,.slice none 0 0,.int .i64 0,.int .i64 0]/\Below w.heap.size w M):=by
       have z:=HZ.out;refine hid ⟨HP.out.2.1.bel Y.out,⟨?_,?_,by omega,?_⟩,(Only.of_below Y.out []).own HP.out.2.2.1 (by simp),HP.out.2.2.2.1.bel Y.out,bx HP.out.2.2.2.2.1 Y.out⟩;·rw[hz,k9];exact Blk.new _ _ _
       ·have:=(Only.of_below z7 []).own zn (by simp);rw[qo] at this ⊢;exact this
       ·intro e;have:=(zn.lt ht e).2;omega
      have yc:Hid (DkF M b6 (.slice pa pn pc) (.slice va xn vc) (.slice none 0 0) (.slice none 0 0) (rs.length-1:Int) (q2y rs) ((X.take 0).filter fun a=>decide (a∉U)) [] M):=by have z:=HZ.out;have k6:=HP.out.1.bel Y.out;exact hid ⟨Only.refl _ _,k6.lt,k6,World.ownsRow_nil _ _ _ _,World.ownsRow_nil _ _ _ _,fun k hk=>by simp[Value.ownBlock] at hk⟩
      have ki:=hid (⟨hU,qo,by have h1:=z1f bs ns;have h2:=congrArg List.length (z5b bs ns);rw[AO,<- hU] at h2;have:=kh.out.2.2;omega⟩:U=refA bs ns/\un=U.length/\U.length<=4096);have qa:=hid hz;have zs:=hid k9;clear zn hU qo kp z7 hz k9;go_upto_region 34 with fail;rw[<- ki.out.2.1,<- zs.out,<- qa.out];clear zs qa zr;have HK:=hid (fun(fv kv:Value) (fs ks:List Int) (W:World) (hD:DkF M b6 (.slice pa pn pc) (.slice va xn vc) fv kv (rs.length-1:Int) (q2y rs) fs ks W)=>(⟨HS.out.1.only hD.only (by have:=HP.out.2.2.2.2.2;simp;omega) (fun k hk hm=>by obtain⟨_,cs,hc⟩:=q0l HS.out.1.row k hk;rw[AF.1 hm] at hc;exact q3w (HP.out.1.bel Y.out) hc (by decide)),HS.out.2.1.only hD.only (by have:=HZ.out;simp;omega) (fun k hk hm=>by have:=(HS.out.2.1.row.lt k hk).1;have:=HZ.out;simp at hm;omega)⟩:q2x W w.heap.size b7 (.slice va xn vc) X/\q2x W zm.heap.size ht (.slice ua un uc) U));go_wp2;go_loopw [22] (fun iv wr=> ∃(i fn fc:Nat) (fa:Option Addr),i<=xn/\iv= .int .i64 (i:Int)/\Hid (fn=((X.take i).filter fun a=>decide (a∉U)).length/\DkF M b6 (.slice pa pn pc) (.slice va xn vc) (.slice fa fn fc) (.slice none 0 0) (rs.length-1:Int) (q2y rs) ((X.take i).filter fun a=>decide (a∉U)) [] wr)) (fun iv _=>xn- (intOf iv).toNat);case atStart=>exact⟨0,0,0,none,Af _,rfl,hid ⟨by simp,yc.out⟩⟩
      case round=>
       obtain⟨i,fn,fc,fa,hi,rfl,k5⟩:=hrel;obtain⟨wB,rfl⟩:∃x,x=wr:=⟨_,rfl⟩;obtain⟨h6,I⟩:=HK.out _ _ _ _ _ k5.out.2;have y7:wB.cell? ⟨b7,0,none⟩=some (.slice va xn vc):=h6.blk.cell 0;by_cases hix:i<xn
       ·obtain⟨x,hx⟩:∃x,X[i]?=some x:=⟨_,AD (by have:=hj.out.2.1;omega)⟩;have i1:(i:Int)< (xn:Int):=by omega
        have i0:(0:Int)<=(i:Int):=by omega
        have kd:=h6.row;rw[<- hj.out.2.1] at kd;obtain⟨gx,cx,e5,_,qh,_,zd⟩:=q2e kd (by omega);injection e5 with e5 _ e6;subst e5 e6;have yx:wB.cell? ⟨gx,i,none⟩=some (.int .u64 x):=by have:=zd i (.int .u64 x) (by rw[AM,hx];rfl);rwa[AQ] at this
        have HH:=hid (x2d zm.heap.size ht _ U x wB I (by have:=ki.out.2.2;omega));have ke:=hid (⟨hx,hix⟩:X[i]?=some x/\i<xn);have y8:i<1000000:=by have:=hj.out;omega
        by_cases hxu:x∈U
        ·have h3:=HH.out;rw[AT hxu] at h3;have HH:=hid h3
         have k8:Hid (fn=((X.take (i+1)).filter fun a=>decide (a∉U)).length/\DkF M b6 (.slice pa pn pc) (.slice (some ⟨gx,0,none⟩) xn vc) (.slice fa fn fc) (.slice none 0 0) (rs.length-1:Int) (q2y rs) ((X.take (i+1)).filter fun a=>decide (a∉U)) [] wB):=by
          have e:(X.take (i+1)).filter (fun a=>decide (a∉U))=(X.take i).filter fun a=>decide (a∉U):=by rw[Ai,hx,Aq];simp[hxu]
          rw[e];exact k5
         clear hxu hx hix hi kd qh zd h6 I h3;go_wp2_with fail;refine HH.out.mono ?_;rintro e w9 ⟨rfl,rfl⟩;go_wp2;go_roundw;case rel=>exact⟨i+1,fn,fc,fa,ke.out.2,by go_num,k8⟩
         case measure=>simp[intOf];have:=ke.out.2;omega
        ·have h3:=HH.out;rw[AK hxu] at h3;have HH:=hid h3;have zt:Below wB.heap.size wB wB.drew:=⟨rfl,rfl,rfl,AG _,fun _ _=>rfl⟩;obtain⟨kz,kr,w9,L,z2,xo,z8⟩:=(k5.out.2.bel2 zt).fault x (by have h1:=Ao (fun a=>decide (a∉U)) (X.take i);rw[AU] at h1;have:=hj.out;omega);rw[<- k5.out.1] at L z8;have S:q0n Tryz.prog #[30,30] 30 #[.slice fa fn fc,.slice (some ⟨wB.heap.size,0,none⟩) 1 1] ((wB.alloc (.cells #[.int .u64 x] 51)).drew)= .ok (.slice kz (fn+1) kr) w9:=L;obtain⟨W9,he⟩:∃W9,W9=w9.setCell ⟨b6,2,none⟩ (.slice kz (fn+1) kr):=⟨_,rfl⟩;have e:(X.take (i+1)).filter (fun a=>decide (a∉U))=((X.take i).filter fun a=>decide (a∉U))++[x]:=by rw[Ai,hx,Aq];simp[hxu]
         have k8:Hid (fn+1=((X.take (i+1)).filter fun a=>decide (a∉U)).length/\DkF M b6 (.slice pa pn pc) (.slice (some ⟨gx,0,none⟩) xn vc) (.slice kz (fn+1) kr) (.slice none 0 0) (rs.length-1:Int) (q2y rs) ((X.take (i+1)).filter fun a=>decide (a∉U)) [] W9):=by rw[e,he];exact hid ⟨by rw[AI,<- k5.out.1];rfl,z8⟩
         have yv:wB.cell? ⟨b6,2,none⟩=some (.slice fa fn fc):=k5.out.2.rep.cell 2;have j6:wB.drew.cell? ⟨b6,2,none⟩=some (.slice fa fn fc):=yv;have j0:(wB.alloc (.cells #[.int .u64 x] 51)).drew.cell? ⟨b6,2,none⟩=some (.slice fa fn fc):=(k5.out.2.rep.alloc _).cell 2;have j5:wB.drew.cell? ⟨b7,0,none⟩=some (.slice (some ⟨gx,0,none⟩) xn vc):=y7;have j1:(wB.alloc (.cells #[.int .u64 x] 51)).drew.cell? ⟨b7,0,none⟩=some (.slice (some ⟨gx,0,none⟩) xn vc):=(h6.blk.alloc _).cell 0;have xq:wB.drew.cell? ⟨gx,i,none⟩=some (.int .u64 x):=yx;have h9:=hid S;have zp:=hid he;clear hxu hx hix hi kd qh zd h6 I h3 L S z8 he e zt;go_wp2_with fail;refine HH.out.mono ?_;rintro e w9 ⟨rfl,rfl⟩;go_wp2_with fail;refine Code.wp_mono (Q:=q5y _) q5y.imp ?_;refine z1q (X:= ?X2) (fun key=> ?_) ?_
         rotate_left
         ·go_region_law (refine q1k rfl (.tmp 194) (.tmp 202) 30 30 rfl _ _ (by simp[Act.eval,Act.put]) (by simp[Act.eval,Act.put]) h9.out ?_)
          all_goals
           try go_simp
           try simp only[Act.put,List.setIfInBounds_toArray,List.set_cons_zero,List.set_cons_succ]
           exact key.out
         refine q5y.normal ?_;rw[<- zp.out];go_wp2;go_roundw;case rel=>exact⟨i+1,_,_,_,ke.out.2,by go_num,k8⟩
         case measure=>simp[intOf];have:=ke.out.2;omega
       ·obtain rfl:xn=i:=by omega
        have i1: ¬(xn:Int)< (xn:Int):=by omega
        obtain⟨F,hF⟩:∃F,F=X.filter fun a=>decide (a∉U):=⟨_,rfl⟩;have xp:Hid (fn=F.length/\DkF M b6 (.slice pa pn pc) (.slice va xn vc) (.slice fa fn fc) (.slice none 0 0) (rs.length-1:Int) (q2y rs) F ((U.take 0).filter fun a=>decide (a∉X)) wB):=by have:=k5.out;rw[hj.out.2.1,BH,<- hF,<- hj.out.2.1] at this;exact hid this
        have HF:=hid hF;clear k5 hi hix hF h6 I;go_wp2;go_loopw [23] (fun iv wr=> ∃(i kn kc:Nat) (ka:Option Addr),i<=un/\iv= .int .i64 (i:Int)/\Hid (kn=((U.take i).filter fun a=>decide (a∉X)).length/\DkF M b6 (.slice pa pn pc) (.slice va xn vc) (.slice fa fn fc) (.slice ka kn kc) (rs.length-1:Int) (q2y rs) F ((U.take i).filter fun a=>decide (a∉X)) wr)) (fun iv _=>un- (intOf iv).toNat);case atStart=>exact⟨0,0,0,none,Af _,rfl,hid ⟨by simp,xp.out.2⟩⟩
        case round=>
         obtain⟨i,kn,kc,ka,hi,rfl,h7⟩:=hrel;obtain⟨wC,rfl⟩:∃x,x=wr:=⟨_,rfl⟩;obtain⟨h6,I⟩:=HK.out _ _ _ _ _ h7.out.2;have xz:wC.cell? ⟨ht,0,none⟩=some (.slice ua un uc):=I.blk.cell 0;by_cases hix:i<un
         ·obtain⟨x,hx⟩:∃x,U[i]?=some x:=⟨_,AD (by have:=ki.out.2.1;omega)⟩;have i1:(i:Int)< (un:Int):=by omega
          have i0:(0:Int)<=(i:Int):=by omega
          have kd:=I.row;rw[<- ki.out.2.1] at kd;obtain⟨gx,cx,e5,_,qh,_,zd⟩:=q2e kd (by omega);injection e5 with e5 _ e6;subst e5 e6;have yx:wC.cell? ⟨gx,i,none⟩=some (.int .u64 x):=by have:=zd i (.int .u64 x) (by rw[AM,hx];rfl);rwa[AQ] at this
          have HH:=hid (x2d w.heap.size b7 _ X x wC h6 (by have:=hj.out.2.2.2;omega));have ke:=hid (⟨hx,hix⟩:U[i]?=some x/\i<un);have y8:i<1000000:=by have:=ki.out;omega
          by_cases hxu:x∈X
          ·have h3:=HH.out;rw[AT hxu] at h3;have HH:=hid h3
           have k8:Hid (kn=((U.take (i+1)).filter fun a=>decide (a∉X)).length/\DkF M b6 (.slice pa pn pc) (.slice va xn vc) (.slice fa fn fc) (.slice ka kn kc) (rs.length-1:Int) (q2y rs) F ((U.take (i+1)).filter fun a=>decide (a∉X)) wC):=by
            have e:(U.take (i+1)).filter (fun a=>decide (a∉X))=(U.take i).filter fun a=>decide (a∉X):=by rw[Ai,hx,Aq];simp[hxu]
            rw[e];exact h7
           clear hxu hx hix hi kd qh zd h6 I h3;go_wp2_with fail;refine HH.out.mono ?_;rintro e w9 ⟨rfl,rfl⟩;go_wp2;go_roundw;case rel=>exact⟨i+1,kn,kc,ka,ke.out.2,by go_num,k8⟩
           case measure=>simp[intOf];have:=ke.out.2;omega
          ·have h3:=HH.out;rw[AK hxu] at h3;have HH:=hid h3;have zt:Below wC.heap.size wC wC.drew:=⟨rfl,rfl,rfl,AG _,fun _ _=>rfl⟩;obtain⟨kz,kr,w9,L,z2,xo,z8⟩:=(h7.out.2.bel2 zt).leak x (by have h1:=Ao (fun a=>decide (a∉X)) (U.take i);rw[AU] at h1;have:=ki.out;omega);rw[<- h7.out.1] at L z8;have S:q0n Tryz.prog #[30,30] 30 #[.slice ka kn kc,.slice (some ⟨wC.heap.size,0,none⟩) 1 1] ((wC.alloc (.cells #[.int .u64 x] 51)).drew)= .ok (.slice kz (kn+1) kr) w9:=L;obtain⟨W9,he⟩:∃W9,W9=w9.setCell ⟨b6,3,none⟩ (.slice kz (kn+1) kr):=⟨_,rfl⟩;have e:(U.take (i+1)).filter (fun a=>decide (a∉X))=((U.take i).filter fun a=>decide (a∉X))++[x]:=by rw[Ai,hx,Aq];simp[hxu]
           have k8:Hid (kn+1=((U.take (i+1)).filter fun a=>decide (a∉X)).length/\DkF M b6 (.slice pa pn pc) (.slice va xn vc) (.slice fa fn fc) (.slice kz (kn+1) kr) (rs.length-1:Int) (q2y rs) F ((U.take (i+1)).filter fun a=>decide (a∉X)) W9):=by rw[e,he];exact hid ⟨by rw[AI,<- h7.out.1];rfl,z8⟩
           have yq:wC.cell? ⟨b6,3,none⟩=some (.slice ka kn kc):=h7.out.2.rep.cell 3;have je:wC.drew.cell? ⟨b6,3,none⟩=some (.slice ka kn kc):=yq;have ja:(wC.alloc (.cells #[.int .u64 x] 51)).drew.cell? ⟨b6,3,none⟩=some (.slice ka kn kc):=(h7.out.2.rep.alloc _).cell 3;have yb:wC.drew.cell? ⟨ht,0,none⟩=some (.slice (some ⟨gx,0,none⟩) un uc):=xz;have yl:(wC.alloc (.cells #[.int .u64 x] 51)).drew.cell? ⟨ht,0,none⟩=some (.slice (some ⟨gx,0,none⟩) un uc):=(I.blk.alloc _).cell 0;have xq:wC.drew.cell? ⟨gx,i,none⟩=some (.int .u64 x):=yx;have h9:=hid S;have zp:=hid he;clear hxu hx hix hi kd qh zd h6 I h3 L S z8 he e zt;go_wp2_with fail;refine HH.out.mono ?_;rintro e w9 ⟨rfl,rfl⟩;go_wp2_with fail;refine Code.wp_mono (Q:=q5y _) q5y.imp ?_;refine z1q (X:= ?X3) (fun key=> ?_) ?_
           rotate_left
           ·go_region_law (refine q1k rfl (.tmp 225) (.tmp 233) 30 30 rfl _ _ (by simp[Act.eval,Act.put]) (by simp[Act.eval,Act.put]) h9.out ?_)
            all_goals
             try go_simp
             try simp only[Act.put,List.setIfInBounds_toArray,List.set_cons_zero,List.set_cons_succ]
             exact key.out
           refine q5y.normal ?_;rw[<- zp.out];go_wp2;go_roundw;case rel=>exact⟨i+1,_,_,_,ke.out.2,by go_num,k8⟩
           case measure=>simp[intOf];have:=ke.out.2;omega
         ·obtain rfl:un=i:=by omega
          have i1: ¬(un:Int)< (un:Int):=by omega
          have hk6:=h7.out.2.rep;have kj:=hk6.ld (P:=Tryz.prog) (ty:=32) Tryz.underlying32 rfl (by kernel_rfl);have hlt:=HP.out.2.2.2.2.2;have ve:=h7.out.2.only.blk HS.out.2.2.2.1 (by simp;omega);obtain⟨W9,zq,x1,kk⟩:=x9x ve rfl pa va fa ka pn pc xn vc fn fc kn kc (rs.length-1:Int) (q2y rs);have h5:=x1.lv (P:=Tryz.prog) (ty:=32) Tryz.underlying32 rfl (by kernel_rfl)
          have yi:Hid (q6r bs w (.returned (.tuple #[.agg #[.slice pa pn pc,.slice va xn vc,.slice fa fn fc,.slice ka kn kc,.int .i64 (rs.length-1:Int),.int .i64 (q2y rs)],.int .i64 0])) W9):=by
           have hU:=ki.out.1;rw[<- kh.out.1] at hU;have hI:=h7.out;rw[ki.out.2.1,BH] at hI;have v1:=HS.out.2.2.2.2.size;have xm:=hI.2.rlt;have bel:=(HS.out.2.2.2.2.trans (hI.2.only.below (B:=w.heap.size) (fun x hx=>by simp at hx;omega) v1)).trans (kk.below (B:=w.heap.size) (fun x hx=>by simp at hx;omega) (AH v1 hI.2.only.size));have keep:∀{N:Nat} {e:TypeId} {sz nn:Nat} {v:Value} {xs:List Value},e≠32->wC.ownsRow N e sz v nn xs->W9.ownsRow N e sz v nn xs:=fun{N e sz nn v xs} hne hr=>kk.own hr (fun k hk hm=>by obtain⟨_,cs,hc⟩:=q0l hr k hk;rw[AF.1 hm] at hc;exact hne (by have:=ve;unfold Blk at this;rw[this] at hc;injection hc with hc;injection hc with _ hc _;exact hc.symm))
           have pr:=HS.out.2.2.1;have prow:=hI.2.only.own pr (fun k hk hm=>by obtain⟨_,cs,hc⟩:=q0l pr k hk;rw[AF.1 hm] at hc;exact q3w (HP.out.1.bel Y.out) hc (by decide));refine hid ⟨bel,Or.inl ⟨rs,ps,leaves,.slice pa pn pc,.slice va xn vc,.slice fa fn fc,.slice ka kn kc,xv.out,qx.out,rfl,keep (by decide) prow,?_,?_,?_⟩⟩;·have:=keep (by decide) h6.row;rw[hj.out.1] at this;exact this
           ·have:=(keep (by decide) hI.2.frow).mono v1;rw[HF.out,hU,hj.out.1] at this;exact this
           ·have:=(keep (by decide) hI.2.krow).mono v1;rw[hU,hj.out.1] at this;exact this
          clear hk6 hlt ve x1 kk hix hi h6 I h7;go_wp2;refine bodyPost_ret (v:= .tuple #[_,.int .i64 0]) (q0y rfl _ _ _ _ _ rfl rfl h5) rfl ?_;exact yi.out
 ·have qt:=z2j w2;have k2:=zl.out.2.bel kt;have zq:=k2.st_same (P:=Tryz.prog) (ty:=32) (by kernel_rfl) (by kernel_rfl);have y9:stR Tryz.prog 32 (.pointer (some ⟨w.heap.size,0,none⟩)) (.agg rep0) w2= .ok () w2:=zq;have h5:lvR Tryz.prog 32 ⟨w.heap.size,0,none⟩ w2= .ok (.agg rep0) w2:=k2.lv (P:=Tryz.prog) (ty:=32) Tryz.underlying32 rfl (by kernel_rfl);have HF:Hid (q6r bs w (.returned (.tuple #[.agg rep0,.int .i64 6])) w2):=hid ⟨bx zl.out.1 kt,Or.inr ⟨fun rs ps hw=>zk rs ⟨hw.slabs,hw.sup,hw.rows⟩,rfl⟩⟩;clear k2 zq kt zk;go_wp2;refine bodyPost_ret (v:= .tuple #[.agg rep0,.int .i64 6]) (q0y rfl _ _ _ _ _ rfl rfl h5) rfl ?_;exact HF.out
end Go.Proofs.YtibiekfjbibpbaaGreat
