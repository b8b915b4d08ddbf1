/- check.Levels: an image's chains, from the leaves on. -/
import Derived.Test.YtibiekfjbibpbaaGreatLokM
set_option maxRecDepth 100000
set_option maxHeartbeats 1000000
set_option linter.unusedVariables false
set_option linter.unusedSimpArgs false
namespace Go.Proofs.YtibiekfjbibpbaaGreat
open Go.RowKit
def revTo (xs:List Value) (i:Nat):List Value:=xs.mapIdx fun k x=>if k<i∨xs.length≤k+i then xs.getD (xs.length-1-k) x else x
theorem revTo_len (xs:List Value) (i:Nat):(revTo xs i).length=xs.length:=by unfold revTo;rw[List.length_mapIdx]
theorem revTo_at (xs:List Value) (i k:Nat) (hk:k<xs.length):(revTo xs i)[k]?=if k<i∨xs.length≤k+i then xs[xs.length-1-k]? else xs[k]?:=by
 unfold revTo
 rw[List.getElem?_mapIdx,List.getElem?_eq_getElem hk]
 have h2:xs.length-1-k<xs.length:=by omega
 simp only[Option.map_some]
 split
 ·rw[List.getElem?_eq_getElem h2,List.getD_eq_getElem?_getD,List.getElem?_eq_getElem h2];rfl
 ·rfl
theorem revTo_zero (xs:List Value):revTo xs 0=xs:=by
 apply List.ext_getElem?
 intro k
 by_cases hk:k<xs.length
 ·rw[revTo_at xs 0 k hk,if_neg (by omega)]
 ·rw[List.getElem?_eq_none (by rw[revTo_len];omega),List.getElem?_eq_none (by omega)]
theorem revTo_end (xs:List Value) (i:Nat) (h:xs.length≤2*i+1):revTo xs i=xs.reverse:=by
 apply List.ext_getElem?
 intro k
 by_cases hk:k<xs.length
 ·rw[revTo_at xs i k hk,List.getElem?_reverse hk]
  split
  ·rfl
  ·congr 1;omega
 ·rw[List.getElem?_eq_none (by rw[revTo_len];omega),List.getElem?_eq_none (by simp;omega)]
theorem revTo_next (xs:List Value) (i j:Nat) (x y:Value) (hij:i<j) (hj:i+j+1=xs.length) (hx:xs[i]?=some x) (hy:xs[j]?=some y):((revTo xs i).set i y).set j x=revTo xs (i+1):=by
 apply List.ext_getElem?
 intro k
 by_cases hk:k<xs.length
 ·rw[revTo_at xs (i+1) k hk,List.getElem?_set,List.getElem?_set,List.length_set,revTo_len,revTo_at xs i k hk]
  by_cases h1:j=k
  ·subst h1
   rw[if_pos rfl,if_pos hk,if_pos (by omega),show xs.length-1-j=i by omega,hx]
  ·rw[if_neg h1]
   by_cases h2:i=k
   ·subst h2
    rw[if_pos rfl,if_pos hk,if_pos (by omega),show xs.length-1-i=j by omega,hy]
   ·rw[if_neg h2]
    by_cases h3:k<i∨xs.length≤k+i
    ·rw[if_pos h3,if_pos (by omega)]
    ·rw[if_neg h3,if_neg (by omega)]
 ·rw[List.getElem?_eq_none (by simp[revTo_len];omega),List.getElem?_eq_none (by rw[revTo_len];omega)]
theorem Reverse_z (N g n cap:Nat) (xs:List Value) (hn:n=xs.length) (h6:n≤1000000) (hx: ∀x∈xs,∃a k c,x= .slice a k c) (w:World) (h:w.ownsRow N 30 1 (.slice (some ⟨g,0,none⟩) n cap) n xs):
  Calls Tryz.prog 100 #[.slice (some ⟨g,0,none⟩) n cap] w fun e w'=>e= .returned (.tuple #[])∧w'.ownsRow N 30 1 (.slice (some ⟨g,0,none⟩) n cap) n xs.reverse∧Only [g] w w':=by
 have HN:=hid hn
 have HX:=hid hx
 have H:=hid h
 have w1:IntKind.i64.wrap ((n:Int)-1)=(n:Int)-1:=by rw[IntWalk.i64_in _ (by omega)]
 clear hn hx h
 go_enter Tryz.func100,Tryz.ntmps100
 go_wp2
 go_loopw [2,3] (fun iv jv wr=> ∃i:Nat,2*i≤n+1∧iv= .int .i64 i∧jv= .int .i64 ((n:Int)-1-i)∧Hid (wr.ownsRow N 30 1 (.slice (some ⟨g,0,none⟩) n cap) n (revTo xs i)∧Only [g] w wr)) (fun iv _ _=>n- (intOf iv).toNat)
 case atStart=>exact⟨0,by omega,rfl,by simp,by rw[revTo_zero];exact⟨H.out,Only.refl _ _⟩⟩
 case round=>
  obtain⟨i,hi,rfl,rfl,hI⟩:=hrel
  by_cases hlt:2*i+1<n
  ·obtain⟨j,hj⟩: ∃j:Nat,i+j+1=n:=⟨n-1-i,by omega⟩
   have ej:(n:Int)-1- (i:Int)=(j:Int):=by omega
   obtain⟨x,hxi⟩: ∃x,xs[i]?=some x:=⟨_,List.getElem?_eq_getElem (by have:=HN.out;omega)⟩
   obtain⟨y,hyj⟩: ∃y,xs[j]?=some y:=⟨_,List.getElem?_eq_getElem (by have:=HN.out;omega)⟩
   obtain⟨xa,xk,xc,rfl⟩:=HX.out x (List.mem_of_getElem? hxi)
   obtain⟨ya,yk,yc,rfl⟩:=HX.out y (List.mem_of_getElem? hyj)
   have hn:=HN.out
   have g1:(revTo xs i)[i]?=some (.slice xa xk xc):=by rw[revTo_at xs i i (by omega),if_neg (by omega)];exact hxi
   have g2:(revTo xs i)[j]?=some (.slice ya yk yc):=by rw[revTo_at xs i j (by omega),if_neg (by omega)];exact hyj
   obtain⟨_,_,e1,_,hcap,_,hcell⟩:=q2e hI.out.1 (by omega)
   injection e1 with e1 _ e3
   injection e1 with e1
   injection e1 with e1
   subst e1 e3
   have c1:=hcell i _ g1
   have c2:=hcell j _ g2
   rw[Nat.zero_add] at c1 c2
   have f0:wr.frozen? ⟨g,i,none⟩=false∧wr.frozen? ⟨g,j,none⟩=false:=by
    rcases hI.out.1.2 with⟨q,_⟩ | ⟨g',cap',cur,q1,_,q3,_⟩
    ·cases q
    ·injection q1 with q1
     injection q1 with q1
     injection q1 with q1
     subst q1
     have hb:Blk wr g _ cur:=q3
     exact⟨hb.frozen i,hb.frozen j⟩
   obtain⟨f1,f2⟩:=f0
   have HNX:=hid (revTo_next xs i j _ _ (by omega) (by omega) hxi hyj)
   have i1:(i:Int)< (j:Int):=by omega
   have i2:(j:Int)< (n:Int):=by omega
   have i3:(i:Int)< (n:Int):=by omega
   have wi:IntKind.i64.wrap ((i:Int)+1)=(i:Int)+1:=by rw[IntWalk.i64_in _ (by omega)]
   have wj:IntKind.i64.wrap ((j:Int)-1)=(j:Int)-1:=by rw[IntWalk.i64_in _ (by omega)]
   have HIJ:=hid (⟨hj,hlt⟩:_∧_)
   rw[ej]
   clear ej hj hlt hi hxi hyj g1 g2 hcap hcell hn
   go_wp2
   go_region
   all_goals go_wp2
   go_roundw
   case rel=>
    have hh:=HIJ.out
    refine⟨i+1,by omega,by go_num,by congr 1;omega,?_⟩
    have o1:=z5x (z5x (((Only.refl [] _).drew).own hI.out.1 (by simp)) i (.slice ya yk yc)) j (.slice xa xk xc)
    rw[HNX.out] at o1
    exact⟨o1,hI.out.2.drew.trans (q2q _ g _ _ _ _) (fun x hx=>Or.inl hx)⟩
   case measure=>have:=HIJ.out;first | (simp[intOf];done) | (simp[intOf];omega)
  ·have i1: ¬(i:Int)< (n:Int)-1- (i:Int):=by omega
   have HLT:=hid hlt
   clear hlt hi
   go_wp2
   go_end0
   have h1:=hI.out
   rw[revTo_end xs i (by have:=HN.out;have:=HLT.out;omega)] at h1
   exact⟨rfl,h1⟩
attribute [local go_sem ↓ high] q0v q5i q5x
attribute [local go_sem] q1x q1p q1v Oper.semAt_some q0h
def ChsAt (W:World) (N:Nat) (v:Value) (rows:List (List (Int×NodeA))):Prop:=
 ∃vs,vs.length=rows.length∧W.ownsRow N 30 1 v rows.length vs∧ ∀(i:Nat) (row:List (Int×NodeA)),rows[i]?=some row→ ∃a c,vs[i]?=some (.slice a row.length c)∧rowU W N (.slice a row.length c) (row.map (·.1))
theorem ChsAt.only {W W':World} {N:Nat} {v:Value} {rows:List (List (Int×NodeA))} {f:List Nat} (h:ChsAt W N v rows) (ho:Only f W W') (hf: ∀k∈f,W.heap.size≤k∨(∀cs fr,W.heap[k]?≠some (.cells cs 30 fr)∧W.heap[k]?≠some (.cells cs 51 fr))):ChsAt W' N v rows:=by
 obtain⟨vs,h1,h2,h3⟩:=h
 refine⟨vs,h1,ho.own h2 (fun k hk hm=> ?_),fun i row hi=> ?_⟩
 ·obtain⟨_,cs,hc⟩:=q0l h2 k hk
  rcases hf k hm with h | h
  ·have:=(Array.getElem?_eq_some_iff.1 hc).1;omega
  ·exact(h cs (0,0)).1 hc
 ·obtain⟨a,c,q1,q2⟩:=h3 i row hi
  refine⟨a,c,q1,ho.own q2 (fun k hk hm=> ?_)⟩
  obtain⟨_,cs,hc⟩:=q0l q2 k hk
  rcases hf k hm with h | h
  ·have:=(Array.getElem?_eq_some_iff.1 hc).1;omega
  ·exact(h cs (0,0)).2 hc
theorem infoAdr:(Tryz.prog.info? 30).map (fun i=>(i.zero,i.size,i.bytes))=some (some (.slice none 0 0),1,24):=by kernel_rfl
theorem chs_push {W:World} {N N':Nat} {v:Value} {rows:List (List (Int×NodeA))} {row:List (Int×NodeA)} {ua:Option Addr} {uc:Nat} (hV:ChsAt W N v rows) (hu:rowU W N' (.slice ua row.length uc) (row.map (·.1))) (hNN:N≤N') (hN:N≤W.heap.size) (hrl:rows.length≤1000):
  ∃va vc w9,q0n Tryz.prog #[72,72] 72 #[v,.slice (some ⟨W.heap.size,0,none⟩) 1 1] (W.alloc (.cells #[.slice ua row.length uc] 30))= .ok (.slice va (rows.length+1) vc) w9∧
   ChsAt w9 N (.slice va (rows.length+1) vc) (rows++[row])∧Only v.ownBlock.toList W w9:=by
 obtain⟨vs,q1,q2,q3⟩:=hV
 obtain⟨i0,hi0,hz0,hz1,hz2⟩:=info_parts infoAdr
 have h5a:(W.alloc (.cells #[.slice ua row.length uc] 30)).ownsRow N 30 1 v rows.length vs:=((Only.refl [] W).alloc _).own q2 (by simp)
 obtain⟨v',w9,hA⟩:=q2b (P:=Tryz.prog) (W.alloc (.cells #[.slice ua row.length uc] 30)) N 72 72 30 i0 _ 1 24 Tryz.underlying72 hi0 hz0 hz1 hz2 rfl (by decide) v rows.length _ h5a (.slice (some ⟨W.heap.size,0,none⟩) 1 1) 1 [.slice ua row.length uc] (Or.inr ⟨W.heap.size,0,1,rfl,fun i u hi=>by
  rw[(Blk.new W 30 #[.slice ua row.length uc]).cell (0+i),Nat.zero_add];simpa using hi⟩) rfl (fun u hu=>by rw[List.mem_singleton.1 hu];rfl) (by unfold maxLen;omega) (by omega) (by simp;omega)
 have hown:=hA.own
 have hgr:=hA.grown
 obtain⟨va,vc,rfl⟩:=q0q hown
 have o9:Only v.ownBlock.toList W w9:=((((Only.refl [] W).alloc _)).mono (fun _ h=>by cases h)).trans (Only.of_grown (f:=v.ownBlock.toList) hgr (fun y hy=>by simp[hy])) (fun y hy=>Or.inl hy)
 have hkeep: ∀u r M,rowU W M u r→rowU w9 M u r:=by
  intro u r M hr
  refine o9.own hr (fun k hk hm=> ?_)
  obtain⟨_,cs,hc⟩:=q0l hr k hk
  obtain⟨_,cs',hc'⟩:=q0l q2 k (by simpa[Option.mem_toList] using hm)
  rw[hc] at hc'
  injection hc' with hc'
  injection hc' with _ hc'
  cases hc'
 refine⟨va,vc,w9,hA.run,⟨vs++[.slice ua row.length uc],by simp[q1],by rw[List.length_append,List.length_singleton];exact hown,fun i r hi=> ?_⟩,o9⟩
 by_cases hlt:i<rows.length
 ·rw[List.getElem?_append_left hlt] at hi
  obtain⟨a,c,e1,e2⟩:=q3 i r hi
  exact⟨a,c,by rw[List.getElem?_append_left (by omega)];exact e1,hkeep _ _ _ e2⟩
 ·have hil:=(List.getElem?_eq_some_iff.1 hi).1
  simp at hil
  have:i=rows.length:=by omega
  subst this
  rw[List.getElem?_append_right (Nat.le_refl _),Nat.sub_self] at hi
  injection hi with hi
  subst hi
  refine⟨ua,uc,?_,World.ownsRow.mono (hkeep _ _ _ hu) hNN⟩
  rw[List.getElem?_append_right (by omega),q1,Nat.sub_self];rfl
def LvsOK (bs:List Int) (ob:Nat) (w w':World):Prop:=
 ∃rs ps a c W1,q1a bs rs ps∧Below w.heap.size w W1∧Only [ob] W1 w'∧Blk w' ob 72 #[.slice a rs.length c]∧ChsAt w' W1.heap.size (.slice a rs.length c) rs.reverse
theorem Levels1_z (ib ob b off cap n:Nat) (bs:List Int) (hn:n=bs.length) (hcap:cap≤9223372036854775807) (hs:0<q0w bs.length) (w:World) (h:q1m w (some ⟨b,off,none⟩) cap bs)
  (hi:w.cell? ⟨ib,0,none⟩=some (.slice (some ⟨b,off,none⟩) n cap)) (ho:Blk w ob 72 #[.slice none 0 0]):
  Calls Tryz.prog 99 #[.pointer (some ⟨ib,0,none⟩),.pointer (some ⟨ob,0,none⟩)] w (CatQ (LvsOK bs ob w) (x1g bs w)):=by
 have WH:=hid (v7v b off cap bs n hn hcap hs w h)
 have HO:=hid ho
 have HBY:=hid h.2.1
 have HS:=hid hs
 clear hn hs h ho
 go_enter Tryz.func99,Tryz.ntmps99
 go_wp2_with fail
 refine WH.out.mono ?_
 rintro e w1 ⟨hb1,(⟨rs,ps,B,lv,pr,hok,rfl,⟨leaves,hlf,hL⟩,hV,hP⟩ | ⟨hno,rfl⟩)⟩
 rotate_left
 ·exact⟨rfl,Or.inr ⟨rfl,hno,hb1⟩⟩
 obtain⟨g,cp,rfl,hcp,hgl,hrd⟩:=hV.ld (by intro e;rw[e] at hlf;cases hlf)
 obtain⟨m,hm⟩: ∃m,m=rs.length:=⟨_,rfl⟩
 rw[←hm] at hL hV hcp
 have z4:w1.cell? ⟨B.lb,4,none⟩=some (.slice (some ⟨g,0,none⟩) m cp):=hL.cells.cell 4
 have hfew:=x5t HBY.out HS.out hok hlf
 have hm16:m≤16:=by rw[hm];exact hfew.2.1
 have hm1:1≤m:=by rw[hm];exact hfew.1
 have HX:=hid (⟨hok,hlf,hm,hcp,hb1⟩:_∧_∧_∧_∧_)
 have HV:=hid hV
 have HOB:=hid (HO.out.bel hb1)
 have HFEW:=hid hfew
 clear hfew hok hlf hm hcp hgl hrd hL hV hP hb1 WH
 go_wp2
 go_loopw [3,4,6,13] (fun s3 s4 s6 iv wr=> ∃(i:Nat) (a:Option Addr) (c:Nat),i≤m∧iv= .int .i64 i∧Hid (Only [ob] w1 wr∧Blk wr ob 72 #[.slice a i c]∧ChsAt wr w1.heap.size (.slice a i c) (rs.take i))) (fun _ _ _ iv _=>m- (intOf iv).toNat)
 case atStart=>exact⟨0,none,0,Nat.zero_le _,rfl,Only.refl _ _,HOB.out,⟨[],rfl,World.ownsRow_nil _ _ _ _,fun i row h=>by simp at h⟩⟩
 case round=>
  obtain⟨i,a,c,hi,rfl,hI⟩:=hrel
  obtain⟨wA,rfl⟩: ∃x,x=wr:=⟨_,rfl⟩
  by_cases hlt:i<m
  ·have i1:(i:Int)< (m:Int):=by omega
   have i0:(0:Int)≤(i:Int):=by omega
   obtain⟨row,hrow⟩: ∃row,rs[i]?=some row:=⟨_,List.getElem?_eq_getElem (by have:=HX.out.2.2.1;omega)⟩
   have hV:=HV.out.only hI.out.1 (fun k hk=>Or.inr (by
    rw[List.mem_singleton.1 hk]
    have hob:w1.heap[ob]?=_:=HOB.out
    rw[hob]
    exact fun cs fr=>⟨(fun h=>by injection h with h;injection h with _ h;cases h),(fun h=>by injection h with h;injection h with _ h;cases h)⟩))
   obtain⟨g',cp',hgs,_,_,hrd⟩:=hV.ld (by intro e;rw[e] at hrow;simp at hrow)
   injection hgs with hg1 hg2 hg3
   clear hg2 hg3
   injection hg1 with hg1
   injection hg1 with hg1
   subst hg1
   obtain⟨ra,rc,hcell,hRA⟩:=hrd i row hrow
   obtain⟨rl,hrl⟩: ∃rl,rl=row.length:=⟨_,rfl⟩
   have hr8:rl≤8320:=by rw[hrl];exact HFEW.out.2.2.1 row (List.mem_of_getElem? hrow)
   rw[←hrl] at hcell hRA
   have HR:=hid (⟨hrow,hRA,hrl,hlt⟩:_∧_∧_∧_)
   clear hrow hV hrd hRA hrl hlt hi
   go_wp2
   go_loopw [4,6,19] (fun lv s6 kv wr=> ∃(k:Nat) (la:Option Addr) (lc:Nat),k≤rl∧kv= .int .i64 k∧lv= .slice la k lc∧Hid (rowU wr wA.heap.size (.slice la k lc) ((row.take k).map (·.1))∧Only [] wA wr)) (fun _ _ kv _=>rl- (intOf kv).toNat)
   case atStart=>exact⟨0,none,0,Nat.zero_le _,rfl,rfl,World.ownsRow_nil _ _ _ _,Only.refl _ _⟩
   case round=>
    obtain⟨k,la,lc,hk,rfl,rfl,hJ⟩:=hrel
    obtain⟨wB,rfl⟩: ∃x,x=wr:=⟨_,rfl⟩
    by_cases hkl:k<rl
    ·have k1:(k:Int)< (rl:Int):=by omega
     have k0:(0:Int)≤(k:Int):=by omega
     obtain⟨x,hx⟩: ∃x,row[k]?=some x:=⟨_,List.getElem?_eq_getElem (by have:=HR.out.2.2.1;omega)⟩
     obtain⟨g2,rfl,ld1⟩:=(HR.out.2.1.only hJ.out.2 (fun k hk=>by cases hk)).ld (Below.refl _ _) hx
     obtain⟨W5,st5,k5,hb5⟩:=z1d wB x.2 x.1 (q2a row k) (hasI row k)
     have c21:W5.cell? ⟨wB.heap.size,21,none⟩=some (.int .u64 x.1):=k5.cell 21
     have hlen:(row.take k).length=k:=by rw[List.length_take];have:=HR.out.2.2.1;omega
     have hp:=q5f (W:=W5) (N:=wA.heap.size) (v:= .slice la k lc) (xs:=(row.take k).map (·.1)) ((Only.of_below hb5 []).own hJ.out.1 (by simp)) (by have:=hJ.out.2.size;have:=hb5.size;omega) x.1 (by rw[List.length_map,hlen];omega)
     rw[List.length_map,hlen] at hp
     obtain⟨va,vc,w9,hrun,hr9,ho9,hn9⟩:=hp
     have e9:(row.take k).map (·.1)++[x.1]=(row.take (k+1)).map (·.1):=by rw[List.take_add_one,hx];simp
     rw[e9] at hr9
     have HN9:Hid (rowU w9 wA.heap.size (.slice va (k+1) vc) ((row.take (k+1)).map (·.1))∧Only [] wA w9):=hid ⟨hr9,by
      refine(hJ.out.2.trans (Only.of_below hb5 []) (fun _ h=>by cases h)).trans ho9 (fun y hy=>Or.inr ?_)
      have hrw:=hJ.out.1
      unfold rowU at hrw
      exact(q0l hrw y (by simpa[Option.mem_toList] using hy)).1⟩
     have HKL:=hid hkl
     clear hx k5 hb5 hlen hr9 ho9 hn9 e9 hkl hk
     go_wp2
     go_roundw
     case rel=>exact⟨k+1,va,vc,HKL.out,by go_num,rfl,HN9⟩
     case measure=>have:=HKL.out;first | (simp[intOf];done) | (simp[intOf];omega)
    ·have k1: ¬(k:Int)< (rl:Int):=by omega
     have hkr:k=rl:=by omega
     subst hkr
     have hu:=hJ.out.1
     rw[HR.out.2.2.1,List.take_length] at hu
     have hC:=hI.out.2.2.only hJ.out.2 (fun k hk=>by cases hk)
     have hB:=hJ.out.2.blk hI.out.2.1 (by simp)
     have hl:(rs.take i).length=i:=by rw[List.length_take];have:=HX.out.2.2.1;have:=HR.out.2.2.2;omega
     have hp:=chs_push hC hu hI.out.1.size (by have:=hI.out.1.size;have:=hJ.out.2.size;omega) (by rw[hl];have:=HR.out.2.2.2;omega)
     rw[hl,←HR.out.2.2.1] at hp
     obtain⟨va,vc,w9,hrun,hch,ho9⟩:=hp
     have hst: ∀k,(Value.slice a i c).ownBlock=some k→k≠ob∧w1.heap.size≤k:=fun k hk=>by
      obtain⟨vs,_,q2,_⟩:=hC
      rw[hl] at q2
      obtain⟨q3,cs,hc⟩:=q0l q2 k hk
      refine⟨fun e=> ?_,q3⟩
      have hb:wB.heap[ob]?=_:=hB
      rw[e,hb] at hc
      injection hc with hc
      injection hc with _ hc
      cases hc
     have k9:=ho9.blk hB (fun hm=>(hst ob (by simpa[Option.mem_toList] using hm)).1 rfl)
     have cob:wB.cell? ⟨ob,0,none⟩=some (.slice a i c):=hB.cell 0
     have c9:=k9.cell 0
     have f9:=k9.frozen 0
     have oS:Only [ob] w9 (w9.setCell ⟨ob,0,none⟩ (.slice va (i+1) vc)):=(Only.refl _ _).setCell (Or.inl (by simp)) _
     have et:rs.take i++[row]=rs.take (i+1):=by rw[List.take_add_one,HR.out.1];rfl
     rw[et] at hch
     have HFIN:Hid (Only [ob] w1 (w9.setCell ⟨ob,0,none⟩ (.slice va (i+1) vc))∧Blk (w9.setCell ⟨ob,0,none⟩ (.slice va (i+1) vc)) ob 72 #[.slice va (i+1) vc]∧ChsAt (w9.setCell ⟨ob,0,none⟩ (.slice va (i+1) vc)) w1.heap.size (.slice va (i+1) vc) (rs.take (i+1))):=hid ⟨by
      refine((hI.out.1.trans hJ.out.2 (fun _ h=>by cases h)).trans ho9 (fun y hy=>Or.inr ?_)).trans oS (fun _ h=>Or.inl h)
      exact(hst y (by simpa[Option.mem_toList] using hy)).2,k9.set_ 0 _,hch.only oS (fun k hk=>Or.inr (by
       rw[List.mem_singleton.1 hk]
       have hb:w9.heap[ob]?=_:=k9
       rw[hb]
       exact fun cs fr=>⟨(fun h=>by injection h with h;injection h with _ h;cases h),(fun h=>by injection h with h;injection h with _ h;cases h)⟩))⟩
     have HLT:=hid HR.out.2.2.2
     clear hu hC hB hl hch ho9 hst k9 oS et HR hk
     go_wp2
     go_roundw
     case rel=>exact⟨i+1,va,vc,HLT.out,by go_num,HFIN⟩
     case measure=>have:=HLT.out;first | (simp[intOf];done) | (simp[intOf];omega)
  ·have hiM:i=m:=by omega
   subst hiM
   have i1: ¬(i:Int)< (i:Int):=by omega
   have hC:=hI.out.2.2
   rw[HX.out.2.2.1,List.take_length] at hC
   obtain⟨vs,q1,q2,q3⟩:=hC
   obtain⟨g2,c2,e2,hg2,hc2,hgl2,hcl2⟩:=q2e q2 (by have:=HX.out.2.2.1;omega)
   rw[←HX.out.2.2.1] at e2 q2
   injection e2 with e2 _ e3
   subst e2 e3
   have hsl: ∀x∈vs,∃a k c,x= .slice a k c:=fun x hx=>by
    obtain⟨k,hk⟩:=List.mem_iff_getElem?.1 hx
    have hkl:=(List.getElem?_eq_some_iff.1 hk).1
    obtain⟨a',c',r1,_⟩:=q3 k _ (List.getElem?_eq_getElem (by omega))
    rw[hk] at r1
    injection r1 with r1
    exact⟨_,_,_,r1⟩
   have RV:=hid (Reverse_z w1.heap.size g2 i c vs (by rw[q1];exact HX.out.2.2.1) (by omega) hsl wA q2)
   have cob:wA.cell? ⟨ob,0,none⟩=some (.slice (some ⟨g2,0,none⟩) i c):=hI.out.2.1.cell 0
   have hty:=q0l q2 g2 rfl
   have HQ:=hid (⟨q1,q3,hty⟩:_∧_∧_)
   clear q1 q2 q3 hg2 hc2 hgl2 hcl2 hsl hlt hi hty
   go_wp2_with fail
   refine RV.out.mono ?_
   rintro e w5 ⟨rfl,hr5,ho5⟩
   obtain⟨q1,q3,hge,cs0,hcs⟩:=HQ.out
   have hb5:Blk w5 ob 72 #[.slice (some ⟨g2,0,none⟩) i c]:=ho5.blk hI.out.2.1 (fun hm=>by
    have hb:wA.heap[ob]?=_:=hI.out.2.1
    rw[List.mem_singleton.1 hm,hcs] at hb
    injection hb with hb
    injection hb with _ hb
    cases hb)
   have HFIN:Hid (LvsOK bs ob w w5):=hid ⟨rs,ps,some ⟨g2,0,none⟩,c,w1,HX.out.1,HX.out.2.2.2.2,hI.out.1.trans ho5 (fun y hy=>Or.inr (by rw[List.mem_singleton.1 hy];exact hge)),by rw[←HX.out.2.2.1];exact hb5,by
    have hil:i=rs.length:=HX.out.2.2.1
    refine⟨vs.reverse,by simp[q1],by rw[List.length_reverse,←hil];exact hr5,fun k row hk=> ?_⟩
    have hkl:=(List.getElem?_eq_some_iff.1 hk).1
    rw[List.length_reverse] at hkl
    rw[List.getElem?_reverse hkl] at hk
    obtain⟨a',c',r1,r2⟩:=q3 _ _ hk
    refine⟨a',c',by rw[List.getElem?_reverse (by omega),q1];exact r1,ho5.own r2 (fun k hk hm=> ?_)⟩
    obtain⟨_,cs',hc'⟩:=q0l r2 k hk
    rw[List.mem_singleton.1 hm,hcs] at hc'
    injection hc' with hc'
    injection hc' with _ hc'
    cases hc'⟩
   clear hcs hb5 hr5 ho5 q1 q3
   go_wp2
   go_end0
   exact Or.inl ⟨rfl,HFIN.out⟩
theorem Levels1_no (ib ob:Nat) (p:Option Addr) (n cap:Nat) (bs:List Int) (hn:n=bs.length) (h6:n≤1000000) (hs: ¬0<q0w bs.length) (w:World)
  (hi:w.cell? ⟨ib,0,none⟩=some (.slice p n cap)):
  Calls Tryz.prog 99 #[.pointer (some ⟨ib,0,none⟩),.pointer (some ⟨ob,0,none⟩)] w (CatQ (LvsOK bs ob w) (x1g bs w)):=by
 have WH:=hid (x6r p n cap bs hn h6 hs w)
 have HS:=hid hs
 clear hn hs
 go_enter Tryz.func99,Tryz.ntmps99
 go_wp2_with fail
 refine WH.out.mono ?_
 rintro e w1 ⟨hb1,(⟨rs,ps,B,lv,pr,hok,rfl,_⟩ | ⟨hno,rfl⟩)⟩
 ·exfalso
  have h1:=hok.slabs.1
  have h2:=HS.out
  omega
 ·exact⟨rfl,Or.inr ⟨rfl,hno,hb1⟩⟩
def LvsPost (bs:List Int) (w:World) (e:Ending) (w':World):Prop:=
 Below w.heap.size w w'∧((∃rs ps a c,q1a bs rs ps∧e= .returned (.tuple #[.slice a rs.length c,.int .i64 0])∧ChsAt w' w.heap.size (.slice a rs.length c) rs.reverse)∨
  ((∀rs ps,¬q1a bs rs ps)∧e= .returned (.tuple #[.slice none 0 0,.int .i64 6])))
theorem Levels_z (p:Option Addr) (n cap:Nat) (bs:List Int) (hn:n=bs.length) (h6:n≤1000000) (hcap:cap≤9223372036854775807) (w:World) (h:q1m w p cap bs):
  Calls Tryz.prog 25 #[.slice p n cap] w (LvsPost bs w):=by
 have hmf: ∀(fn:Fn) (first cap:Array Value) (w:World),(Instr.makeFunc fn first cap).run Tryz.prog w= .ok (.func fn first cap) w:=fun _ _ _ _=>rfl
 obtain⟨W2,hW2⟩: ∃W2,W2=(w.alloc (.cells #[.slice p n cap] 36)).alloc (.cells #[.slice none 0 0] 72):=⟨_,rfl⟩
 have hb2:Below w.heap.size w W2:=by rw[hW2];exact ba (ba (Below.refl _ _) _) _
 have hz2:W2.heap.size=w.heap.size+2:=by rw[hW2];simp
 have k1:Blk W2 w.heap.size 36 #[.slice p n cap]:=by rw[hW2];exact(Blk.new w _ _).alloc _
 have k2:Blk W2 (w.heap.size+1) 72 #[.slice none 0 0]:=by
  rw[hW2]
  have:=Blk.new (w.alloc (.cells #[.slice p n cap] 36)) 72 #[.slice none 0 0]
  simpa only[World.size_alloc] using this
 obtain⟨W3,hW3⟩: ∃W3,W3=W2.alloc (.cells #[.int .i64 0] 33):=⟨_,rfl⟩
 have hb3:Below W2.heap.size W2 W3:=by rw[hW3];exact ba (Below.refl _ _) _
 have hz3:W3.heap.size=W2.heap.size+1:=by rw[hW3];simp
 have k3:Blk W3 W2.heap.size 33 #[.int .i64 0]:=by rw[hW3];exact Blk.new _ _ _
 have hin:Calls Tryz.prog 99 #[.pointer (some ⟨w.heap.size,0,none⟩),.pointer (some ⟨w.heap.size+1,0,none⟩)] W3 (CatQ (LvsOK bs (w.heap.size+1) W3) (x1g bs W3)):=by
  by_cases hs:0<q0w bs.length
  ·have hl:=q1s hs
   obtain⟨b,off,rfl,hbl,hbc⟩:=h.2.2 (by omega)
   exact Levels1_z w.heap.size (w.heap.size+1) b off cap n bs hn hcap hs W3 (q2d h (bx hb2 hb3)) ((k1.bel hb3).cell 0) (k2.bel hb3)
  ·exact Levels1_no w.heap.size (w.heap.size+1) p n cap bs hn h6 hs W3 ((k1.bel hb3).cell 0)
 have CAT:=hid (v2p 99 #[.pointer (some ⟨w.heap.size,0,none⟩),.pointer (some ⟨w.heap.size+1,0,none⟩)] (fun W=>by kernel_rfl) W2 (LvsOK bs (w.heap.size+1) W3) (x1g bs W3) (by rw[←hW3];exact hin) (fun w' hw=>by
  rcases hw with⟨rs,ps,a,c,W1,_,hb,hO,_⟩ | ⟨_,hb⟩
  ·have:=hO.blk (k3.bel hb) (by simp;omega)
   exact⟨this.cell 0,this.frozen 0⟩
  ·exact⟨(k3.bel hb).cell 0,(k3.bel hb).frozen 0⟩))
 have HW:=hid (⟨hb2,hz2,k2,hb3,hz3,k3⟩:_∧_∧_∧_∧_∧_)
 clear hn h6 h hb2 hz2 k1 k2 hb3 hz3 k3 hin
 go_enter Tryz.func25,Tryz.ntmps25
 go_wp2_with fail
 rw[←hW2]
 clear hW2 hW3
 refine CAT.out.mono ?_
 rintro e w5 ⟨w4,(⟨hok,rfl,rfl⟩ | ⟨hbad,rfl,rfl⟩)⟩
 ·obtain⟨rs,ps,a,c,W1,hOK,hb,hO,hB,hC⟩:=hok
  obtain⟨W5,hW5⟩: ∃W5,W5=w4.setCell ⟨W2.heap.size,0,none⟩ (.int .i64 0):=⟨_,rfl⟩
  have o5:Only [W2.heap.size] w4 W5:=by rw[hW5];exact(Only.refl _ _).setCell (Or.inl (by simp)) _
  have hh:=HW.out
  have z1:=hb.size
  have z2:=hO.size
  obtain⟨rn,hrn⟩: ∃rn,rn=rs.length:=⟨_,rfl⟩
  rw[←hrn] at hB hC
  have k5:=o5.blk hB (by simp;omega)
  have c5:W5.cell? ⟨w.heap.size+1,0,none⟩=some (.slice a rn c):=k5.cell 0
  have f5:=k5.frozen 0
  have hkk:Blk w4 W2.heap.size 33 #[.int .i64 0]:=hO.blk (hh.2.2.2.2.2.bel hb) (by simp;omega)
  have bel:Below w.heap.size w W5:=by
   have h1:Below w.heap.size w W1:=bx (bx hh.1 hh.2.2.2.1) hb
   have h2:=h1.trans (hO.below (B:=w.heap.size) (fun x hx=>by simp at hx;omega) h1.size)
   exact h2.trans (o5.below (B:=w.heap.size) (fun x hx=>by simp at hx;omega) h2.size)
  have hC5:ChsAt W5 w.heap.size (.slice a rn c) rs.reverse:=by
   have h1:=hC.only o5 (fun k hk=>Or.inr (by
    rw[List.mem_singleton.1 hk]
    have hb:w4.heap[W2.heap.size]?=_:=hkk
    rw[hb]
    exact fun cs fr=>⟨(fun h=>by injection h with h;injection h with _ h;cases h),(fun h=>by injection h with h;injection h with _ h;cases h)⟩))
   obtain⟨vs,q1,q2,q3⟩:=h1
   exact⟨vs,q1,q2.mono (by omega),fun i row hi=>by
    obtain⟨a',c',r1,r2⟩:=q3 i row hi
    exact⟨a',c',r1,World.ownsRow.mono r2 (by omega)⟩⟩
  have o6:Only [w.heap.size+1] W5 (W5.setCell ⟨w.heap.size+1,0,none⟩ (.slice a rn c)):=(Only.refl _ _).setCell (Or.inl (by simp)) _
  have c6:=(k5.set_ 0 (.slice a rn c)).cell 0
  have HFIN:Hid (LvsPost bs w (.returned (.tuple #[.slice a rn c,.int .i64 0])) (W5.setCell ⟨w.heap.size+1,0,none⟩ (.slice a rn c))):=hid ⟨bel.trans (o6.below (B:=w.heap.size) (fun x hx=>by simp at hx;omega) bel.size),Or.inl ⟨rs,ps,a,c,hOK,by rw[hrn],by rw[←hrn];exact hC5.only o6 (fun k hk=>Or.inr (by
    rw[List.mem_singleton.1 hk]
    have hb:W5.heap[w.heap.size+1]?=_:=k5
    rw[hb]
    exact fun cs fr=>⟨(fun h=>by injection h with h;injection h with _ h;cases h),(fun h=>by injection h with h;injection h with _ h;cases h)⟩))⟩⟩
  rw[←hW5]
  clear hW5 o5 hh k5 bel hC hB hOK hb z1 z2 hkk hC5 hO hrn o6
  go_wp2
  refine bodyPost_ret (v:= .tuple #[.slice a rn c,.int .i64 0]) (by simp[results,Tryz.results25,go_sem,c6]) rfl ?_
  exact HFIN.out
 ·obtain⟨hno,hb⟩:=hbad
  obtain⟨W5,hW5⟩: ∃W5,W5=w4.setCell ⟨W2.heap.size,0,none⟩ (.int .i64 6):=⟨_,rfl⟩
  have o5:Only [W2.heap.size] w4 W5:=by rw[hW5];exact(Only.refl _ _).setCell (Or.inl (by simp)) _
  have hh:=HW.out
  have z1:=hb.size
  have k5:=o5.blk ((hh.2.2.1.bel hh.2.2.2.1).bel hb) (by simp;omega)
  have c5:W5.cell? ⟨w.heap.size+1,0,none⟩=some (.slice none 0 0):=k5.cell 0
  have f5:=k5.frozen 0
  have bel:Below w.heap.size w W5:=by
   have h2:Below w.heap.size w w4:=bx (bx hh.1 hh.2.2.2.1) hb
   exact h2.trans (o5.below (B:=w.heap.size) (fun x hx=>by simp at hx;omega) h2.size)
  have o6:Only [w.heap.size+1] W5 (W5.setCell ⟨w.heap.size+1,0,none⟩ (.slice none 0 0)):=(Only.refl _ _).setCell (Or.inl (by simp)) _
  have c6:=(k5.set_ 0 (.slice none 0 0)).cell 0
  have HFIN:Hid (LvsPost bs w (.returned (.tuple #[.slice none 0 0,.int .i64 6])) (W5.setCell ⟨w.heap.size+1,0,none⟩ (.slice none 0 0))):=hid ⟨bel.trans (o6.below (B:=w.heap.size) (fun x hx=>by simp at hx;omega) bel.size),Or.inr ⟨hno,rfl⟩⟩
  rw[←hW5]
  clear hW5 o5 hh k5 bel hno hb z1 o6
  go_wp2
  refine bodyPost_ret (v:= .tuple #[.slice none 0 0,.int .i64 6]) (by simp[results,Tryz.results25,go_sem,c6]) rfl ?_
  exact HFIN.out
end Go.Proofs.YtibiekfjbibpbaaGreat
