/- The document's sets of addresses (leveeref05.Addrs): is one in, one put in; two lists compared. -/
import Derived.Sort.Defs
import Derived.Deep.Cut
import Derived.Test.YtibiekfjbibpbaaGreatAppM
import Derived.Test.YtibiekfjbibpbaaGreatOwnRow
set_option maxRecDepth 100000
set_option maxHeartbeats 2000000
set_option linter.unusedVariables false
set_option linter.unusedSimpArgs false
namespace Go.Proofs.YtibiekfjbibpbaaGreat
open Go.RowKit
attribute [local go_sem ↓ high] append_shut2
attribute [local go_sem] appM2_run
structure AddrsIs (w:World) (N s:Nat) (v:Value) (xs:List Int):Prop where
 blk:Blk w s 159 #[v]
 row:w.ownsRow N 51 1 v xs.length (xs.map (Value.int .u64))
 lo:N≤s
 ne:v.ownBlock≠some s
theorem AddrsIs.nums {w:World} {N s:Nat} {v:Value} {xs:List Int} (h:AddrsIs w N s v xs):NumsAt .u64 w v xs:=NumsAt.of_own h.row
theorem AddrsIs.only {w w':World} {N s:Nat} {v:Value} {xs:List Int} {fs:List Nat} (h:AddrsIs w N s v xs) (ho:Only fs w w') (h1:s∉fs) (h2: ∀k,v.ownBlock=some k→k∉fs):AddrsIs w' N s v xs:=
 ⟨ho.blk h.blk h1,ho.own h.row h2,h.lo,h.ne⟩
theorem AddrsIs.bel {w w':World} {N s:Nat} {v:Value} {xs:List Int} (h:AddrsIs w N s v xs) (hb:Below w.heap.size w w'):AddrsIs w' N s v xs:=
 h.only (Only.of_below hb []) (by simp) (by simp)
theorem AHas_r (N s:Nat) (v:Value) (xs:List Int) (a:Int) (w:World) (h:AddrsIs w N s v xs) (hl:xs.length≤1000000000):
  Calls Tryz.prog 76 #[.pointer (some ⟨s,0,none⟩),.int .u64 a] w fun e w'=>e= .returned (.bool (decide (a∈xs)))∧w=w':=by
 obtain⟨ao,cap,rfl,hat⟩:=h.nums
 have y0:w.cell? ⟨s,0,none⟩=some (.slice ao xs.length cap):=h.blk.cell 0
 obtain⟨n,hn⟩: ∃n,n=xs.length:=⟨_,rfl⟩
 rw[←hn] at y0
 have HN:=hid hn
 have HAT:=hid hat
 have n9:n≤1000000000:=by omega
 clear hat h hl hn
 go_enter Tryz.func76,Tryz.ntmps76
 go_wp2
 go_loopw [5] (fun vi wr=> ∃i:Nat,vi= .int .i64 (i:Int)∧i≤n∧w=wr∧Hid (a∉xs.take i)) (fun vi _=>n- (intOf vi).toNat)
 case atStart=>exact⟨0,rfl,Nat.zero_le _,rfl,(by simp:a∉xs.take 0)⟩
 case round=>
  obtain⟨i,rfl,hi,rfl,hm⟩:=hrel
  by_cases hlt:i<n
  ·obtain⟨x,hx⟩: ∃x,xs[i]?=some x:=⟨_,List.getElem?_eq_getElem (by rw[←HN.out];exact hlt)⟩
   obtain⟨b,off,rfl,hbl,hc⟩: ∃b off,ao=some ⟨b,off,none⟩∧b<w.heap.size∧ ∀i x,xs[i]?=some x→w.cell? ⟨b,off+i,none⟩=some (.int .u64 x):=by
    rcases HAT.out with h0 | h0
    ·exfalso;have:=HN.out;rw[h0] at this;simp at this;omega
    ·exact h0
   have y1:=hc i x hx
   have i0:(0:Int)≤(i:Int):=by omega
   have i1:(i:Int)< (n:Int):=by omega
   have HX:=hid hx
   clear hc hbl hx
   by_cases he:x=a
   ·have e1:(x==a)=true:=by simp[he]
    have hin:a∈xs:=by rw[←he];exact List.mem_of_getElem? HX.out
    have hd:=hid (decide_eq_true hin)
    clear he hin
    go_wp2
    go_ret
    exact⟨by rw[hd.out];rfl,rfl⟩
   ·have e1:(x==a)=false:=by simp[he]
    have hm2:Hid (a∉xs.take (i+1)):=by
     show a∉xs.take (i+1)
     rw[List.take_add_one,HX.out,List.mem_append]
     rintro(h1 | h1)
     ·exact hm.out h1
     ·simp at h1;exact he h1.symm
    clear he
    go_wp2
    go_roundw
    case rel=>exact⟨i+1,by go_num,hlt,trivial,hm2⟩
    case measure=>simp[intOf];omega
  ·obtain rfl:i=n:=by omega
   have i1: ¬(i:Int)< (i:Int):=by omega
   have hd:decide (a∈xs)=false:=by
    have:=hm.out
    rw[HN.out,List.take_length] at this
    exact decide_eq_false this
   clear hi hlt
   go_wp2
   go_ret
   exact⟨rfl,rfl⟩
theorem AddrsIs.newRow {w w3:World} {N s:Nat} {v v3:Value} {xs ys:List Int} (h:AddrsIs w N s v xs) (ho:Only [] w w3) (hown:w3.ownsRow N 51 1 v3 ys.length (ys.map (Value.int .u64))) (hnew: ∀k,v3.ownBlock=some k→w.heap.size≤k):
  AddrsIs (w3.setCell ⟨s,0,none⟩ v3) N s v3 ys∧(∀k,v3.ownBlock=some k→v.ownBlock=some k∨w.heap.size≤k)∧Only [s] w (w3.setCell ⟨s,0,none⟩ v3):=by
 have h3:Only [s] w3 (w3.setCell ⟨s,0,none⟩ v3):=(Only.refl _ _).setCell (Or.inl (by simp)) _
 have hs2:=ho.blk h.blk (by simp)
 have hl:=h.blk.lt
 have nb:v3.ownBlock≠some s:=fun e=>by have:=hnew s e;omega
 refine⟨⟨hs2.set_ 0 _,h3.own hown (fun k hk hm=>nb (by rw[hk,List.mem_singleton.1 hm])),h.lo,nb⟩,?_,(ho.mono (by simp)).trans h3 (fun x hx=>Or.inl hx)⟩
 exact fun k hk=>Or.inr (hnew k hk)
def insA (xs:List Int) (a:Int):List Int:=if a∈xs then xs else xs.takeWhile (fun x=>decide (x<a))++a::xs.dropWhile (fun x=>decide (x<a))
theorem takeWhile_at {xs:List Int} {a:Int} {i:Nat} (h: ∀j x,j<i→xs[j]?=some x→x<a) (hn: ∀x,xs[i]?=some x→ ¬x<a) (hi:i≤xs.length):
  xs.takeWhile (fun x=>decide (x<a))=xs.take i∧xs.dropWhile (fun x=>decide (x<a))=xs.drop i:=by
 induction xs generalizing i with
 | nil=>simp
 | cons y ys ih=>
  cases i with
  | zero=>
   have:=hn y rfl
   simp[this]
  | succ i=>
   have h0:=h 0 y (by omega) rfl
   obtain⟨h1,h2⟩:=ih (i:=i) (fun j x hj hx=>h (j+1) x (by omega) hx) (fun x hx=>hn x hx) (by simpa using hi)
   simp[h0,h1,h2]
theorem app_addr (N:Nat) (W:World) (x:Value) (l news:List Int) (v:Value) (hx:NewsAt W x news.length (news.map (Value.int .u64))) (hm:l.length+news.length≤2000000) (hN:N≤W.heap.size) (hr:W.ownsRow N 51 1 v l.length (l.map (Value.int .u64))):
  ∃v' w',appRun2 Tryz.prog #[30,30] 30 #[v,x] W= .ok v' w'∧w'.ownsRow N 51 1 v' (l++news).length ((l++news).map (Value.int .u64))∧W.grownBy w' v.ownBlock∧(v'.ownBlock=v.ownBlock∨v'.ownBlock=some W.heap.size):=by
 obtain⟨i0,hi0,hz0,hz1,hz2⟩:=info_parts infoAddr
 obtain⟨v',w',h⟩:=run_app (P:=Tryz.prog) W N 30 30 51 i0 (.int .u64 0) 1 8 Tryz.underlying30 hi0 hz0 hz1 hz2 rfl (by decide) v l.length _ hr x news.length _ hx (by simp) (by
  intro u hu
  obtain⟨y,_,rfl⟩:=List.mem_map.1 hu
  rfl) (by unfold maxLen;omega) (by omega) hN
 refine⟨v',w',h.run,?_,h.grown,h.ob⟩
 rw[List.length_append,List.map_append]
 exact h.own
theorem new_only {w W w':World} {o:Option Nat} (ho:Only [] w W) (hg:W.grownBy w' o) (hn: ∀k,o=some k→w.heap.size≤k):Only [] w w':=by
 refine ho.trans (Only.of_grown (f:=o.toList) hg (fun k hk=>by simp[hk])) (fun x hx=>Or.inr (hn x (by simpa using hx)))
theorem own_new {w W:World} {v v':Value} (ho:Only [] w W) (h:v'.ownBlock=v.ownBlock∨v'.ownBlock=some W.heap.size) (hn: ∀k,v.ownBlock=some k→w.heap.size≤k): ∀k,v'.ownBlock=some k→w.heap.size≤k:=by
 intro k hk
 rcases h with e | e
 ·exact hn k (e▸hk)
 ·rw[e] at hk;injection hk with hk;rw[←hk];exact ho.size
theorem three1 (N:Nat) (w W:World) (hW:Below w.heap.size w W) (hN:N≤w.heap.size) (p1 p3:Value) (l1 l3:List Int) (a:Int) (h1:NewsAt w p1 l1.length (l1.map (Value.int .u64))) (h3:NewsAt w p3 l3.length (l3.map (Value.int .u64))) (hm:l1.length+l3.length≤1000000):
  ∃v1 w1 v2 w2 v3 w3,appRun2 Tryz.prog #[30,30] 30 #[.slice none 0 0,p1] W= .ok v1 w1∧
   appRun2 Tryz.prog #[30,30] 30 #[v1,.slice (some ⟨w1.heap.size,0,none⟩) 1 1] (w1.alloc (.cells #[.int .u64 a] 51))= .ok v2 w2∧
   appRun2 Tryz.prog #[30,30] 30 #[v2,p3] w2= .ok v3 w3∧Only [] w w1∧Only [] w w2∧Only [] w w3∧
   w3.ownsRow N 51 1 v3 (l1++a::l3).length ((l1++a::l3).map (Value.int .u64))∧ ∀k,v3.ownBlock=some k→w.heap.size≤k:=by
 have o0:Only [] w W:=Only.of_below hW []
 obtain⟨v1,w1,r1,e1,g1,b1⟩:=app_addr N W p1 [] l1 (.slice none 0 0) (h1.bel hW) (by simp;omega) (Nat.le_trans hN hW.size) (World.ownsRow_nil _ _ _ _)
 have n0: ∀k,(Value.slice none 0 0).ownBlock=some k→w.heap.size≤k:=fun k hk=>by simp[Value.ownBlock] at hk
 have o1:=new_only o0 g1 n0
 have n1:=own_new o0 b1 n0
 rw[List.nil_append] at e1
 have o1a:=o1.alloc (.cells #[.int .u64 a] 51)
 obtain⟨v2,w2,r2,e2,g2,b2⟩:=app_addr N (w1.alloc (.cells #[.int .u64 a] 51)) (.slice (some ⟨w1.heap.size,0,none⟩) 1 1) l1 [a] v1
  (Or.inr ⟨w1.heap.size,0,1,rfl,fun j u hj=>by
   rw[(Blk.new w1 51 #[.int .u64 a]).cell (0+j),Nat.zero_add];simpa using hj⟩) (by simp;omega) (Nat.le_trans hN o1a.size) (e1.alloc _)
 have o2:=new_only o1a g2 n1
 have n2:=own_new o1a b2 n1
 obtain⟨v3,w3,r3,e3,g3,b3⟩:=app_addr N w2 p3 (l1++[a]) l3 v2 (h3.bel (o2.below (by simp) (Nat.le_refl _))) (by simp;omega) (Nat.le_trans hN o2.size) e2
 have o3:=new_only o2 g3 n2
 have n3:=own_new o2 b3 n2
 rw[List.append_assoc,List.singleton_append] at e3
 exact⟨v1,w1,v2,w2,v3,w3,r1,r2,r3,o1,o2,o3,e3,n3⟩
theorem three2 (N:Nat) (w W:World) (hW:Below w.heap.size w W) (hN:N≤w.heap.size) (x p1 p3:Value) (l1 l3:List Int) (a:Int) (hx:NewsAt W x 1 [.int .u64 a]) (h1:NewsAt w p1 l1.length (l1.map (Value.int .u64))) (h3:NewsAt w p3 l3.length (l3.map (Value.int .u64))) (hm:l1.length+l3.length≤1000000):
  ∃v1 w1 v2 w2 v3 w3,appRun2 Tryz.prog #[30,30] 30 #[.slice none 0 0,p1] W= .ok v1 w1∧
   appRun2 Tryz.prog #[30,30] 30 #[v1,x] w1= .ok v2 w2∧
   appRun2 Tryz.prog #[30,30] 30 #[v2,p3] w2= .ok v3 w3∧Only [] w w1∧Only [] w w2∧Only [] w w3∧
   w3.ownsRow N 51 1 v3 (l1++a::l3).length ((l1++a::l3).map (Value.int .u64))∧ ∀k,v3.ownBlock=some k→w.heap.size≤k:=by
 have o0:Only [] w W:=Only.of_below hW []
 obtain⟨v1,w1,r1,e1,g1,b1⟩:=app_addr N W p1 [] l1 (.slice none 0 0) (h1.bel hW) (by simp;omega) (Nat.le_trans hN hW.size) (World.ownsRow_nil _ _ _ _)
 have n0: ∀k,(Value.slice none 0 0).ownBlock=some k→w.heap.size≤k:=fun k hk=>by simp[Value.ownBlock] at hk
 have nW: ∀k,(Value.slice none 0 0).ownBlock=some k→W.heap.size≤k:=fun k hk=>by simp[Value.ownBlock] at hk
 have o1:=new_only o0 g1 n0
 have oW:=new_only (Only.refl [] W) g1 nW
 have n1:=own_new o0 b1 n0
 rw[List.nil_append] at e1
 obtain⟨v2,w2,r2,e2,g2,b2⟩:=app_addr N w1 x l1 [a] v1 (hx.bel (oW.below (by simp) (Nat.le_refl _))) (by simp;omega) (Nat.le_trans hN o1.size) e1
 have o2:=new_only o1 g2 n1
 have n2:=own_new o1 b2 n1
 obtain⟨v3,w3,r3,e3,g3,b3⟩:=app_addr N w2 p3 (l1++[a]) l3 v2 (h3.bel (o2.below (by simp) (Nat.le_refl _))) (by simp;omega) (Nat.le_trans hN o2.size) e2
 have o3:=new_only o2 g3 n2
 have n3:=own_new o2 b3 n2
 rw[List.append_assoc,List.singleton_append] at e3
 exact⟨v1,w1,v2,w2,v3,w3,r1,r2,r3,o1,o2,o3,e3,n3⟩
theorem APut_r (N s:Nat) (v:Value) (xs:List Int) (a:Int) (w:World) (h:AddrsIs w N s v xs) (hN:N≤w.heap.size) (hl:xs.length≤1000000) (ha:a≠0):
  Calls Tryz.prog 72 #[.pointer (some ⟨s,0,none⟩),.int .u64 a] w fun e w'=>(∃r,e= .returned r)∧(∃v',AddrsIs w' N s v' (insA xs a)∧(∀k,v'.ownBlock=some k→v.ownBlock=some k∨w.heap.size≤k))∧Only [s] w w':=by
 have hH:=hid (AHas_r N s v xs a w h (by omega))
 have a0:(a==0)=false:=by simp[ha]
 clear ha
 by_cases hin:a∈xs
 ·have hd:=decide_eq_true hin
  rw[hd] at hH
  have hi:Hid (insA xs a=xs):=by show insA xs a=xs;unfold insA;rw[if_pos hin]
  have H:=hid h
  clear h hin hd
  go_enter Tryz.func72,Tryz.ntmps72
  go_wp2_with fail
  refine(hH.out).mono ?_
  rintro e w1 ⟨rfl,rfl⟩
  go_wp2
  go_ret
  exact⟨⟨_,rfl⟩,⟨v,by rw[hi.out];exact H.out,fun k hk=>Or.inl hk⟩,Only.refl _ _⟩
 ·have hd:=decide_eq_false hin
  rw[hd] at hH
  rcases h.row.2 with⟨rfl,hn0⟩ | ⟨g,cap,cur,rfl,h2,h3,h4,h5,h6,h7⟩
  ·obtain rfl:xs=[]:=List.length_eq_zero_iff.1 hn0
   have y0:w.cell? ⟨s,0,none⟩=some (.slice none 0 0):=h.blk.cell 0
   have H:=hid h
   clear h hin hd
   go_enter Tryz.func72,Tryz.ntmps72
   go_wp2_with fail
   refine(hH.out).mono ?_
   rintro e w1 ⟨rfl,rfl⟩
   go_wp2
   go_loopw [5] (fun vi wr=>vi= .int .i64 0∧w=wr) (fun vi _=>0)
   case atStart=>exact⟨rfl,rfl⟩
   case round=>
    obtain⟨rfl,rfl⟩:=hrel
    go_upto_region 8 with fail
    obtain⟨i0,hi0,hz0,hz1,hz2⟩:=info_parts infoAddr
    have hA:=fun(W:World) (x:Value) (m:Nat) (news:List Value) (v:Value) (xs:List Int) (hx:NewsAt W x m news) (hl:news.length=m) (h1: ∀u∈news,u.oneCell'=true) (hm:xs.length+m≤2000000) (hN:N≤W.heap.size) (hr:W.ownsRow N 51 1 v xs.length (xs.map (Value.int .u64)))=>
     run_app (P:=Tryz.prog) W N 30 30 51 i0 (.int .u64 0) 1 8 Tryz.underlying30 hi0 hz0 hz1 hz2 rfl (by decide) v xs.length _ hr x m news hx (by rw[hl,Nat.mul_one]) h1 (by unfold maxLen;omega) (by omega) hN
    obtain⟨v2,w2,h2⟩:=hA (w.alloc (.cells #[.int .u64 a] 51)).drew (.slice (some ⟨w.heap.size,0,none⟩) 1 1) 1 [.int .u64 a] (.slice none 0 0) []
     (Or.inr ⟨w.heap.size,0,1,rfl,fun j u hj=>by
      have:(w.alloc (.cells #[.int .u64 a] 51)).drew.cell? ⟨w.heap.size,0+j,none⟩=_:=(Blk.new w 51 #[.int .u64 a]).drew.cell (0+j)
      rw[this,Nat.zero_add];simpa using hj⟩) rfl (by simp[Value.oneCell']) (by simp) (by simp;omega) (World.ownsRow_nil _ _ _ _)
    have n1: ∀W,appRun2 Tryz.prog #[30,30] 30 #[.slice none 0 0,.slice none 0 0] W= .ok (.slice none 0 0) W:=fun W=>run_append_owned_none (P:=Tryz.prog) (w:=W) 0 _ _ _ i0 1 Tryz.underlying30 hi0 _ 0 [] (World.ownsRow_nil _ _ _ _)
    have n2:=h2.run
    have n3:appRun2 Tryz.prog #[30,30] 30 #[v2,.slice none 0 0] w2= .ok v2 w2:=run_append_owned_none (P:=Tryz.prog) (w:=w2) N _ _ _ i0 1 Tryz.underlying30 hi0 _ _ _ h2.own
    have ho:=hid (show Only [] w w2 from(((Only.refl [] w).alloc (.cells #[.int .u64 a] 51)).drew).trans (Only.of_grown (f:=[]) h2.grown (fun k hk=>by simp[Value.ownBlock] at hk)) (fun x hx=>by simp at hx))
    have y2:w2.cell? ⟨s,0,none⟩=some (.slice none 0 0):=(ho.out.blk H.out.blk (by simp)).cell 0
    have y2f:=(ho.out.blk H.out.blk (by simp)).frozen 0
    have y3:w.drew.cell? ⟨s,0,none⟩=some (.slice none 0 0):=y0
    have y4:(w.alloc (.cells #[.int .u64 a] 51)).cell? ⟨s,0,none⟩=some (.slice none 0 0):=(((Only.refl [] w).alloc (.cells #[.int .u64 a] 51)).blk H.out.blk (by simp)).cell 0
    have y5: ¬s=w.heap.size:=by have:=H.out.blk.lt;omega
    have hown2:=h2.own
    have hob2:=h2.ob
    obtain⟨va,vc,rfl⟩:=row_form1 hown2
    simp only[List.length_nil,Nat.zero_add] at n2 n3
    have HF:=hid (H.out.newRow (w3:=w2) (ys:=[a]) ho.out hown2 (fun k hk=>by
     rcases hob2 with e | e
     ·rw[e] at hk;simp[Value.ownBlock] at hk
     ·rw[e] at hk;injection hk with hk;simp at hk;omega))
    clear hown2 hob2 hA hn0 hl h2
    go_region
    go_wp2
    go_ret
    exact⟨⟨_,rfl⟩,⟨_,HF.out.1,HF.out.2.1⟩,HF.out.2.2⟩
  ·obtain⟨n,hn⟩: ∃n,n=xs.length:=⟨_,rfl⟩
   have y0:w.cell? ⟨s,0,none⟩=some (.slice (some ⟨g,0,none⟩) xs.length cap):=h.blk.cell 0
   have hg:Blk w g 51 cur:=h3
   have hcell: ∀i x,xs[i]?=some x→w.cell? ⟨g,i,none⟩=some (.int .u64 x):=fun i x hi=>by
    have hl:i<xs.length:=(List.getElem?_eq_some_iff.1 hi).1
    rw[hg.cell,←Array.getElem?_toList]
    have:(cur.toList.take (xs.length*1))[i]?=some (.int .u64 x):=by rw[h7,List.getElem?_map,hi];rfl
    rw[List.getElem?_take,if_pos (by omega)] at this
    exact this
   have sg:s≠g:=fun e=>h.ne (by rw[e];rfl)
   rw[←hn] at y0 h4
   have HN:=hid hn
   have HC:=hid hcell
   have HG:=hid hg
   have n9:n≤1000000:=by omega
   have H:=hid h
   have HIN:=hid hin
   have HSG:=hid sg
   have HCAP:=hid h5
   clear h hl hn hin hd hcell hg h2 h3 h5 h6 h7 sg
   go_enter Tryz.func72,Tryz.ntmps72
   go_wp2_with fail
   refine(hH.out).mono ?_
   rintro e w1 ⟨rfl,rfl⟩
   go_wp2
   go_loopw [5] (fun vi wr=> ∃i:Nat,vi= .int .i64 (i:Int)∧i≤n∧w=wr∧Hid (∀j x,j<i→xs[j]?=some x→x<a)) (fun vi _=>n- (intOf vi).toNat)
   case atStart=>exact⟨0,rfl,Nat.zero_le _,rfl,(fun j x hj=>by omega: ∀j x,j<0→xs[j]?=some x→x<a)⟩
   case round=>
    obtain⟨i,rfl,hi,rfl,hm⟩:=hrel
    have HI:=hid hi
    have i0:(0:Int)≤(i:Int):=by omega
    by_cases hgo: ∃x,xs[i]?=some x∧x<a
    ·obtain⟨x,hx,hxa⟩:=hgo
     have hlt:i<n:=by rw[HN.out];exact(List.getElem?_eq_some_iff.1 hx).1
     have y1:=HC.out i x hx
     have d1:decide ((i:Int)< (n:Int))=true:=decide_eq_true (by omega)
     have d1':decide (i<n)=true:=decide_eq_true hlt
     have d2:decide (x<a)=true:=decide_eq_true hxa
     have i1:(i:Int)< (n:Int):=by omega
     have hm2:Hid (∀j y,j<i+1→xs[j]?=some y→y<a):=fun j y hj hy=>by
      by_cases hji:j=i
      ·subst hji;rw[hx] at hy;injection hy with hy;omega
      ·exact hm.out j y (by omega) hy
     have HLT:=hid hlt
     clear hx hlt hxa
     go_wp2
     go_roundw
     case rel=>exact⟨i+1,by go_num,HLT.out,trivial,hm2⟩
     case measure=>simp[intOf];have:=HLT.out;omega
    ·have hstop:Hid (∀x,xs[i]?=some x→ ¬x<a):=fun x hx hxa=>hgo ⟨x,hx,hxa⟩
     clear hgo
     have HP:=hid (takeWhile_at (i:=i) hm.out hstop.out (by rw[←HN.out];exact hi))
     by_cases hlt:i<n
     ·obtain⟨x,hx⟩: ∃x,xs[i]?=some x:=⟨_,List.getElem?_eq_getElem (by rw[←HN.out];exact hlt)⟩
      have y1:=HC.out i x hx
      have d1:decide ((i:Int)< (n:Int))=true:=decide_eq_true (by omega)
      have d1':decide (i<n)=true:=decide_eq_true hlt
      have d2:decide (x<a)=false:=decide_eq_false (hstop.out x hx)
      have i1:(i:Int)< (n:Int):=by omega
      clear hx
      have nci: ¬cap=i:=by omega
      go_upto_region 8 with fail
      have ic:i≤cap:=by omega
      have hins:Hid (insA xs a=xs.take i++a::xs.drop i):=by
       show insA xs a=_
       unfold insA
       rw[if_neg HIN.out,HP.out.1,HP.out.2]
      have hl1:(xs.take i).length=i:=by rw[List.length_take,←HN.out];omega
      have hl3:(xs.drop i).length=n-i:=by rw[List.length_drop,←HN.out]
      have hp1:NewsAt w (.slice (some ⟨g,0,none⟩) i cap) (xs.take i).length ((xs.take i).map (Value.int .u64)):=by
       rw[hl1]
       refine Or.inr ⟨g,0,cap,rfl,fun j u hj=> ?_⟩
       rw[List.getElem?_map] at hj
       obtain⟨y,hy,rfl⟩:=Option.map_eq_some_iff.1 hj
       rw[List.getElem?_take] at hy
       split at hy
       ·rw[Nat.zero_add];exact HC.out j y hy
       ·cases hy
      have hp3: ∀o,(n=i∨o=i)→NewsAt w (.slice (some ⟨g,o,none⟩) (n-i) (cap-i)) (xs.drop i).length ((xs.drop i).map (Value.int .u64)):=by
       intro o ho
       rw[hl3]
       refine Or.inr ⟨g,o,_,rfl,fun j u hj=> ?_⟩
       rw[List.getElem?_map] at hj
       obtain⟨y,hy,rfl⟩:=Option.map_eq_some_iff.1 hj
       rw[List.getElem?_drop] at hy
       have hjl:=(List.getElem?_eq_some_iff.1 hy).1
       rcases ho with ho | ho
       ·exfalso;have:=HN.out;omega
       ·rw[ho];exact HC.out (i+j) y hy
      have hxx:NewsAt (w.alloc (.cells #[.int .u64 a] 51)).drew (.slice (some ⟨w.heap.size,0,none⟩) 1 1) 1 [.int .u64 a]:=Or.inr ⟨w.heap.size,0,1,rfl,fun j u hj=>by
       have:(w.alloc (.cells #[.int .u64 a] 51)).drew.cell? ⟨w.heap.size,0+j,none⟩=_:=(Blk.new w 51 #[.int .u64 a]).drew.cell (0+j)
       rw[this,Nat.zero_add];simpa using hj⟩
      have y3:w.drew.cell? ⟨s,0,none⟩=some (.slice (some ⟨g,0,none⟩) n cap):=y0
      have y4:(w.alloc (.cells #[.int .u64 a] 51)).cell? ⟨s,0,none⟩=some (.slice (some ⟨g,0,none⟩) n cap):=((((Only.refl [] w).alloc (.cells #[.int .u64 a] 51)).blk H.out.blk (by simp)).cell 0).trans (by rw[←HN.out];rfl)
      obtain⟨v1,w1,v2,w2,v3,w3,r1,r2,r3,o1,o2,o3,e3,n3⟩:=three1 N w w.drew (belDrew w) hN _ _ (xs.take i) (xs.drop i) a hp1 (hp3 i (Or.inr rfl)) (by rw[hl1,hl3];omega)
      obtain⟨u1,x1,u2,x2,u3,x3,q1,q2,q3,m1,m2,m3,f3,k3⟩:=three2 N w (w.alloc (.cells #[.int .u64 a] 51)).drew ((ba (Below.refl _ _) _).drew) hN _ _ _ (xs.take i) (xs.drop i) a hxx hp1 (hp3 i (Or.inr rfl)) (by rw[hl1,hl3];omega)
      rw[←hins.out] at e3 f3
      obtain⟨va,vc,rfl⟩:=row_form1 e3
      obtain⟨ua,uc,rfl⟩:=row_form1 f3
      have HF1:=hid (H.out.newRow o3 e3 n3)
      have HF2:=hid (H.out.newRow m3 f3 k3)
      have z1:w1.cell? ⟨s,0,none⟩=some (.slice (some ⟨g,0,none⟩) n cap):=((o1.blk H.out.blk (by simp)).cell 0).trans (by rw[←HN.out];rfl)
      have z1':(w1.alloc (.cells #[.int .u64 a] 51)).cell? ⟨s,0,none⟩=some (.slice (some ⟨g,0,none⟩) n cap):=(((o1.alloc (.cells #[.int .u64 a] 51)).blk H.out.blk (by simp)).cell 0).trans (by rw[←HN.out];rfl)
      have z2:w2.cell? ⟨s,0,none⟩=some (.slice (some ⟨g,0,none⟩) n cap):=((o2.blk H.out.blk (by simp)).cell 0).trans (by rw[←HN.out];rfl)
      have z3:w3.cell? ⟨s,0,none⟩=some (.slice (some ⟨g,0,none⟩) n cap):=((o3.blk H.out.blk (by simp)).cell 0).trans (by rw[←HN.out];rfl)
      have z3f:=(o3.blk H.out.blk (by simp)).frozen 0
      have t1:x1.cell? ⟨s,0,none⟩=some (.slice (some ⟨g,0,none⟩) n cap):=((m1.blk H.out.blk (by simp)).cell 0).trans (by rw[←HN.out];rfl)
      have t2:x2.cell? ⟨s,0,none⟩=some (.slice (some ⟨g,0,none⟩) n cap):=((m2.blk H.out.blk (by simp)).cell 0).trans (by rw[←HN.out];rfl)
      have t3:x3.cell? ⟨s,0,none⟩=some (.slice (some ⟨g,0,none⟩) n cap):=((m3.blk H.out.blk (by simp)).cell 0).trans (by rw[←HN.out];rfl)
      have t3f:=(m3.blk H.out.blk (by simp)).frozen 0
      clear hp1 hp3 hxx o1 o2 o3 e3 n3 m1 m2 m3 f3 k3 hl1 hl3
      go_region
      all_goals go_wp2
      all_goals go_ret
      ·exact⟨⟨_,rfl⟩,⟨_,HF1.out.1,HF1.out.2.1⟩,HF1.out.2.2⟩
      ·exact⟨⟨_,rfl⟩,⟨_,HF2.out.1,HF2.out.2.1⟩,HF2.out.2.2⟩
     ·have d1:decide ((i:Int)< (n:Int))=false:=decide_eq_false (by omega)
      have d1':decide (i<n)=false:=decide_eq_false hlt
      have HIN2:=hid (show n=i by omega)
      have hin3:(i:Int)≤(n:Int):=by omega
      clear hlt
      obtain⟨o,ho,hoo⟩: ∃o,(if cap=i then some (⟨g,0,none⟩:Addr) else some ⟨g,i,none⟩)=some ⟨g,o,none⟩∧(n=i∨o=i):=by
       split
       ·exact⟨0,rfl,Or.inl HIN2.out⟩
       ·exact⟨i,rfl,Or.inr rfl⟩
      have HOO:=hid hoo
      clear hoo
      go_upto_region 8 with fail
      have ic:i≤cap:=by omega
      have hins:Hid (insA xs a=xs.take i++a::xs.drop i):=by
       show insA xs a=_
       unfold insA
       rw[if_neg HIN.out,HP.out.1,HP.out.2]
      have hl1:(xs.take i).length=i:=by rw[List.length_take,←HN.out];omega
      have hl3:(xs.drop i).length=n-i:=by rw[List.length_drop,←HN.out]
      have hp1:NewsAt w (.slice (some ⟨g,0,none⟩) i cap) (xs.take i).length ((xs.take i).map (Value.int .u64)):=by
       rw[hl1]
       refine Or.inr ⟨g,0,cap,rfl,fun j u hj=> ?_⟩
       rw[List.getElem?_map] at hj
       obtain⟨y,hy,rfl⟩:=Option.map_eq_some_iff.1 hj
       rw[List.getElem?_take] at hy
       split at hy
       ·rw[Nat.zero_add];exact HC.out j y hy
       ·cases hy
      have hp3: ∀o,(n=i∨o=i)→NewsAt w (.slice (some ⟨g,o,none⟩) (n-i) (cap-i)) (xs.drop i).length ((xs.drop i).map (Value.int .u64)):=by
       intro o ho
       rw[hl3]
       refine Or.inr ⟨g,o,_,rfl,fun j u hj=> ?_⟩
       rw[List.getElem?_map] at hj
       obtain⟨y,hy,rfl⟩:=Option.map_eq_some_iff.1 hj
       rw[List.getElem?_drop] at hy
       have hjl:=(List.getElem?_eq_some_iff.1 hy).1
       rcases ho with ho | ho
       ·exfalso;have:=HN.out;omega
       ·rw[ho];exact HC.out (i+j) y hy
      have hxx:NewsAt (w.alloc (.cells #[.int .u64 a] 51)).drew (.slice (some ⟨w.heap.size,0,none⟩) 1 1) 1 [.int .u64 a]:=Or.inr ⟨w.heap.size,0,1,rfl,fun j u hj=>by
       have:(w.alloc (.cells #[.int .u64 a] 51)).drew.cell? ⟨w.heap.size,0+j,none⟩=_:=(Blk.new w 51 #[.int .u64 a]).drew.cell (0+j)
       rw[this,Nat.zero_add];simpa using hj⟩
      have y3:w.drew.cell? ⟨s,0,none⟩=some (.slice (some ⟨g,0,none⟩) n cap):=y0
      have y4:(w.alloc (.cells #[.int .u64 a] 51)).cell? ⟨s,0,none⟩=some (.slice (some ⟨g,0,none⟩) n cap):=((((Only.refl [] w).alloc (.cells #[.int .u64 a] 51)).blk H.out.blk (by simp)).cell 0).trans (by rw[←HN.out];rfl)
      obtain⟨v1,w1,v2,w2,v3,w3,r1,r2,r3,o1,o2,o3,e3,n3⟩:=three1 N w w.drew (belDrew w) hN _ _ (xs.take i) (xs.drop i) a hp1 (hp3 o HOO.out) (by rw[hl1,hl3];omega)
      obtain⟨u1,x1,u2,x2,u3,x3,q1,q2,q3,m1,m2,m3,f3,k3⟩:=three2 N w (w.alloc (.cells #[.int .u64 a] 51)).drew ((ba (Below.refl _ _) _).drew) hN _ _ _ (xs.take i) (xs.drop i) a hxx hp1 (hp3 o HOO.out) (by rw[hl1,hl3];omega)
      rw[←hins.out] at e3 f3
      obtain⟨va,vc,rfl⟩:=row_form1 e3
      obtain⟨ua,uc,rfl⟩:=row_form1 f3
      have HF1:=hid (H.out.newRow o3 e3 n3)
      have HF2:=hid (H.out.newRow m3 f3 k3)
      have z1:w1.cell? ⟨s,0,none⟩=some (.slice (some ⟨g,0,none⟩) n cap):=((o1.blk H.out.blk (by simp)).cell 0).trans (by rw[←HN.out];rfl)
      have z1':(w1.alloc (.cells #[.int .u64 a] 51)).cell? ⟨s,0,none⟩=some (.slice (some ⟨g,0,none⟩) n cap):=(((o1.alloc (.cells #[.int .u64 a] 51)).blk H.out.blk (by simp)).cell 0).trans (by rw[←HN.out];rfl)
      have z2:w2.cell? ⟨s,0,none⟩=some (.slice (some ⟨g,0,none⟩) n cap):=((o2.blk H.out.blk (by simp)).cell 0).trans (by rw[←HN.out];rfl)
      have z3:w3.cell? ⟨s,0,none⟩=some (.slice (some ⟨g,0,none⟩) n cap):=((o3.blk H.out.blk (by simp)).cell 0).trans (by rw[←HN.out];rfl)
      have z3f:=(o3.blk H.out.blk (by simp)).frozen 0
      have t1:x1.cell? ⟨s,0,none⟩=some (.slice (some ⟨g,0,none⟩) n cap):=((m1.blk H.out.blk (by simp)).cell 0).trans (by rw[←HN.out];rfl)
      have t2:x2.cell? ⟨s,0,none⟩=some (.slice (some ⟨g,0,none⟩) n cap):=((m2.blk H.out.blk (by simp)).cell 0).trans (by rw[←HN.out];rfl)
      have t3:x3.cell? ⟨s,0,none⟩=some (.slice (some ⟨g,0,none⟩) n cap):=((m3.blk H.out.blk (by simp)).cell 0).trans (by rw[←HN.out];rfl)
      have t3f:=(m3.blk H.out.blk (by simp)).frozen 0
      clear hp1 hp3 hxx o1 o2 o3 e3 n3 m1 m2 m3 f3 k3 hl1 hl3
      go_region
      all_goals go_wp2
      all_goals go_ret
      ·exact⟨⟨_,rfl⟩,⟨_,HF1.out.1,HF1.out.2.1⟩,HF1.out.2.2⟩
      ·exact⟨⟨_,rfl⟩,⟨_,HF2.out.1,HF2.out.2.1⟩,HF2.out.2.2⟩
end Go.Proofs.YtibiekfjbibpbaaGreat
