import Derived.Test.YtjmaicckkkdjpaaGreatF02
/- Keys in order, each once (the document's Rising), walked. -/
set_option maxRecDepth 100000
set_option maxHeartbeats 4000000
set_option linter.unusedVariables false
set_option linter.unusedSimpArgs false
namespace Go.Proofs.YtjmaicckkkdjpaaGreat
open Go.RowKit
section
attribute [local go_sem ↓ high] append_shut2
attribute [local go_sem] appM2_run
theorem infoU64k:(Tryz.prog.info? 25).map (fun i=>(i.zero,i.size,i.bytes))=some (some (.int .u64 0),1,8):=by kernel_rfl
theorem app_u64 (N:Nat) (W:World) (x:Value) (l news:List Int) (v:Value) (hx:NewsAt W x news.length (news.map (Value.int .u64))) (hm:l.length+news.length≤2000000) (hN:N≤W.heap.size) (hr:W.ownsRow N 25 1 v l.length (l.map (Value.int .u64))):
  ∃v' w',appRun2 Tryz.prog #[22,22] 22 #[v,x] W= .ok v' w'∧w'.ownsRow N 25 1 v' (l++news).length ((l++news).map (Value.int .u64))∧W.grownBy w' v.ownBlock∧(v'.ownBlock=v.ownBlock∨v'.ownBlock=some W.heap.size):=by
 obtain⟨i0,hi0,hz0,hz1,hz2⟩:=info_parts infoU64k
 obtain⟨v',w',h⟩:=run_app (P:=Tryz.prog) W N 22 22 25 i0 (.int .u64 0) 1 8 Tryz.underlying22 hi0 hz0 hz1 hz2 rfl (by decide) v l.length _ hr x news.length _ hx (by simp) (by
  intro u hu
  obtain⟨y,_,rfl⟩:=List.mem_map.1 hu
  rfl) (by unfold maxLen;omega) (by omega) hN
 refine⟨v',w',h.run,?_,h.grown,h.ob⟩
 rw[List.length_append,List.map_append]
 exact h.own
theorem new_onlyU {w W w':World} {o:Option Nat} (ho:Only [] w W) (hg:W.grownBy w' o) (hn: ∀k,o=some k→w.heap.size≤k):Only [] w w':=by
 refine ho.trans (Only.of_grown (f:=o.toList) hg (fun k hk=>by simp[hk])) (fun x hx=>Or.inr (hn x (by simpa using hx)))
theorem own_newU {w W:World} {v v':Value} (ho:Only [] w W) (h:v'.ownBlock=v.ownBlock∨v'.ownBlock=some W.heap.size) (hn: ∀k,v.ownBlock=some k→w.heap.size≤k): ∀k,v'.ownBlock=some k→w.heap.size≤k:=by
 intro k hk
 rcases h with e | e
 ·exact hn k (e▸hk)
 ·rw[e] at hk;injection hk with hk;rw[←hk];exact ho.size
theorem threeU1 (N:Nat) (w W:World) (hW:Below w.heap.size w W) (hN:N≤w.heap.size) (p1 p3:Value) (l1 l3:List Int) (a:Int) (h1:NewsAt w p1 l1.length (l1.map (Value.int .u64))) (h3:NewsAt w p3 l3.length (l3.map (Value.int .u64))) (hm:l1.length+l3.length≤1000000):
  ∃v1 w1 v2 w2 v3 w3,appRun2 Tryz.prog #[22,22] 22 #[.slice none 0 0,p1] W= .ok v1 w1∧
   appRun2 Tryz.prog #[22,22] 22 #[v1,.slice (some ⟨w1.heap.size,0,none⟩) 1 1] (w1.alloc (.cells #[.int .u64 a] 25))= .ok v2 w2∧
   appRun2 Tryz.prog #[22,22] 22 #[v2,p3] w2= .ok v3 w3∧Only [] w w1∧Only [] w w2∧Only [] w w3∧
   w3.ownsRow N 25 1 v3 (l1++a::l3).length ((l1++a::l3).map (Value.int .u64))∧ ∀k,v3.ownBlock=some k→w.heap.size≤k:=by
 have o0:Only [] w W:=Only.of_below hW []
 obtain⟨v1,w1,r1,e1,g1,b1⟩:=app_u64 N W p1 [] l1 (.slice none 0 0) (h1.bel hW) (by simp;omega) (Nat.le_trans hN hW.size) (World.ownsRow_nil _ _ _ _)
 have n0: ∀k,(Value.slice none 0 0).ownBlock=some k→w.heap.size≤k:=fun k hk=>by simp[Value.ownBlock] at hk
 have o1:=new_onlyU o0 g1 n0
 have n1:=own_newU o0 b1 n0
 rw[List.nil_append] at e1
 have o1a:=o1.alloc (.cells #[.int .u64 a] 25)
 obtain⟨v2,w2,r2,e2,g2,b2⟩:=app_u64 N (w1.alloc (.cells #[.int .u64 a] 25)) (.slice (some ⟨w1.heap.size,0,none⟩) 1 1) l1 [a] v1
  (Or.inr ⟨w1.heap.size,0,1,rfl,fun j u hj=>by
   rw[(Blk.new w1 25 #[.int .u64 a]).cell (0+j),Nat.zero_add];simpa using hj⟩) (by simp;omega) (Nat.le_trans hN o1a.size) (e1.alloc _)
 have o2:=new_onlyU o1a g2 n1
 have n2:=own_newU o1a b2 n1
 obtain⟨v3,w3,r3,e3,g3,b3⟩:=app_u64 N w2 p3 (l1++[a]) l3 v2 (h3.bel (o2.below (by simp) (Nat.le_refl _))) (by simp;omega) (Nat.le_trans hN o2.size) e2
 have o3:=new_onlyU o2 g3 n2
 have n3:=own_newU o2 b3 n2
 rw[List.append_assoc,List.singleton_append] at e3
 exact⟨v1,w1,v2,w2,v3,w3,r1,r2,r3,o1,o2,o3,e3,n3⟩
theorem threeU2 (N:Nat) (w W:World) (hW:Below w.heap.size w W) (hN:N≤w.heap.size) (x p1 p3:Value) (l1 l3:List Int) (a:Int) (hx:NewsAt W x 1 [.int .u64 a]) (h1:NewsAt w p1 l1.length (l1.map (Value.int .u64))) (h3:NewsAt w p3 l3.length (l3.map (Value.int .u64))) (hm:l1.length+l3.length≤1000000):
  ∃v1 w1 v2 w2 v3 w3,appRun2 Tryz.prog #[22,22] 22 #[.slice none 0 0,p1] W= .ok v1 w1∧
   appRun2 Tryz.prog #[22,22] 22 #[v1,x] w1= .ok v2 w2∧
   appRun2 Tryz.prog #[22,22] 22 #[v2,p3] w2= .ok v3 w3∧Only [] w w1∧Only [] w w2∧Only [] w w3∧
   w3.ownsRow N 25 1 v3 (l1++a::l3).length ((l1++a::l3).map (Value.int .u64))∧ ∀k,v3.ownBlock=some k→w.heap.size≤k:=by
 have o0:Only [] w W:=Only.of_below hW []
 obtain⟨v1,w1,r1,e1,g1,b1⟩:=app_u64 N W p1 [] l1 (.slice none 0 0) (h1.bel hW) (by simp;omega) (Nat.le_trans hN hW.size) (World.ownsRow_nil _ _ _ _)
 have n0: ∀k,(Value.slice none 0 0).ownBlock=some k→w.heap.size≤k:=fun k hk=>by simp[Value.ownBlock] at hk
 have nW: ∀k,(Value.slice none 0 0).ownBlock=some k→W.heap.size≤k:=fun k hk=>by simp[Value.ownBlock] at hk
 have o1:=new_onlyU o0 g1 n0
 have oW:=new_onlyU (Only.refl [] W) g1 nW
 have n1:=own_newU o0 b1 n0
 rw[List.nil_append] at e1
 obtain⟨v2,w2,r2,e2,g2,b2⟩:=app_u64 N w1 x l1 [a] v1 (hx.bel (oW.below (by simp) (Nat.le_refl _))) (by simp;omega) (Nat.le_trans hN o1.size) e1
 have o2:=new_onlyU o1 g2 n1
 have n2:=own_newU o1 b2 n1
 obtain⟨v3,w3,r3,e3,g3,b3⟩:=app_u64 N w2 p3 (l1++[a]) l3 v2 (h3.bel (o2.below (by simp) (Nat.le_refl _))) (by simp;omega) (Nat.le_trans hN o2.size) e2
 have o3:=new_onlyU o2 g3 n2
 have n3:=own_newU o2 b3 n2
 rw[List.append_assoc,List.singleton_append] at e3
 exact⟨v1,w1,v2,w2,v3,w3,r1,r2,r3,o1,o2,o3,e3,n3⟩
def atU (out:List Int) (x:Int):Nat:=(out.takeWhile fun y=>decide (y<x)).length
def insU (out:List Int) (x:Int):List Int:=if out[atU out x]?=some x then out else out.take (atU out x)++x::out.drop (atU out x)
def risTo (xs:List Int):Nat→List Int
 | 0=>[]
 | i+1=>insU (risTo xs i) (xs.getD i 0)
theorem atU_is {out:List Int} {x:Int} {a:Nat} (h: ∀j y,j<a→out[j]?=some y→y<x) (hn: ∀y,out[a]?=some y→ ¬y<x) (ha:a≤out.length):atU out x=a:=by
 unfold atU
 induction out generalizing a with
 | nil=>simp at ha;simp[ha]
 | cons y ys ih=>
  cases a with
  | zero=>have:=hn y rfl;simp[this]
  | succ a=>
   have h0:=h 0 y (by omega) rfl
   have:=ih (a:=a) (fun j z hj hz=>h (j+1) z (by omega) hz) (fun z hz=>hn z hz) (by simpa using ha)
   simp[h0,this]
theorem insU_len (out:List Int) (x:Int):(insU out x).length≤out.length+1:=by
 unfold insU
 split
 ·omega
 ·rw[List.length_append,List.length_cons,List.length_take,List.length_drop];omega
theorem insU_in {out:List Int} {x y:Int} (h:y∈insU out x):y∈out∨y=x:=by
 unfold insU at h
 split at h
 ·exact Or.inl h
 ·rcases List.mem_append.1 h with h | h
  ·exact Or.inl (List.mem_of_mem_take h)
  ·rcases List.mem_cons.1 h with h | h
   ·exact Or.inr h
   ·exact Or.inl (List.mem_of_mem_drop h)
theorem risTo_in {xs:List Int}: ∀{i:Nat},i≤xs.length→ ∀y∈risTo xs i,y∈xs
 | 0,_,y,h=>by cases h
 | i+1,hi,y,h=>by
  rcases insU_in h with h | h
  ·exact risTo_in (by omega) y h
  ·rw[h,List.getD_eq_getElem?_getD,List.getElem?_eq_getElem (by omega)]
   exact List.getElem_mem _
structure RisI (w:World) (v:Value) (out:List Int) (W:World):Prop where
 row:W.ownsRow w.heap.size 25 1 v out.length (out.map (Value.int .u64))
 bel:Below w.heap.size w W
theorem RisI.bel' {w:World} {v:Value} {out:List Int} {W W':World} (h:RisI w v out W) (hb:Below W.heap.size W W'):RisI w v out W':=⟨(Only.of_below hb []).own h.row (by simp),h.bel.trans (hb.mono h.bel.size)⟩
theorem ris_news {w:World} {gb k rc:Nat} {out:List Int} {W:World} (h:RisI w (.slice (some ⟨gb,0,none⟩) k rc) out W) (hk:k=out.length) (a:Nat) (ha:a≤k):
  k≤rc∧(out.take a).length=a∧(out.drop a).length=k-a∧NewsAt W (.slice (some ⟨gb,0,none⟩) a rc) (out.take a).length ((out.take a).map (Value.int .u64))∧
   ∀o c,(k=a∨o=a)→NewsAt W (.slice (some ⟨gb,o,none⟩) (k-a) c) (out.drop a).length ((out.drop a).map (Value.int .u64)):=by
 have hl1:(out.take a).length=a:=by rw[List.length_take,←hk];omega
 have hl3:(out.drop a).length=k-a:=by rw[List.length_drop,←hk]
 have hrow:=h.row
 subst hk
 have hle:out.length≤rc:=by
  rcases hrow.2 with⟨h1,_⟩ | ⟨g',cap',cur,h1,h2,h3,h4,_⟩
  ·cases h1
  ·injection h1 with _ _ hc;omega
 have hcell: ∀j,j<out.length→W.cell? ⟨gb,j,none⟩=(out.map (Value.int .u64))[j]?:=fun j hj=>hrow.cellAt j (by omega)
 refine⟨hle,hl1,hl3,Or.inr ⟨gb,0,rc,by rw[hl1],fun j u hj=> ?_⟩,fun o c ho=> ?_⟩
 ·have hj1:=(List.getElem?_eq_some_iff.1 hj).1
  rw[List.length_map,hl1] at hj1
  rw[Nat.zero_add,hcell j (by omega),←hj,List.map_take,List.getElem?_take,if_pos hj1]
 ·rw[hl3]
  refine Or.inr ⟨gb,o,c,rfl,fun j u hj=> ?_⟩
  have hj1:=(List.getElem?_eq_some_iff.1 hj).1
  rw[List.length_map,hl3] at hj1
  rcases ho with ho | ho
  ·omega
  ·rw[ho,hcell (a+j) (by omega),←hj,List.map_drop,List.getElem?_drop]
def RisPs (w:World) (xs:List Int) (most:Nat) (e:Ending) (w':World):Prop:=
 Below w.heap.size w w'∧ ∃v j,e= .returned v∧j≤xs.length∧(j=xs.length∨most≤(risTo xs j).length)∧(risTo xs j).length≤most∧w'.ownsRow w.heap.size 25 1 v (risTo xs j).length ((risTo xs j).map (Value.int .u64))
theorem Rising_z (xs:List Int) (most:Nat) (lv:Value) (hl:xs.length≤1000000) (hm:most≤1000) (w:World) (h:NumsAt .u64 w lv xs):
  Calls Tryz.prog 40 #[lv,.int .i64 (most:Int)] w fun e w'=>RisPs w xs most e w':=by
 obtain⟨ao,cap,rfl,hat⟩:=h
 obtain⟨n,hn⟩: ∃n,n=xs.length:=⟨_,rfl⟩
 rw[←hn]
 have HN:=hid (⟨hn,hl,hm⟩:_∧_∧_)
 have HAT:=hid hat
 have HI0:Hid (RisI w (.slice none 0 0) (risTo xs 0) w):=hid ⟨World.ownsRow_nil _ _ _ _,Below.refl _ _⟩
 clear hn hl hm hat
 go_enter Tryz.func40,Tryz.ntmps40
 go_wp2
 go_loopw [5,6] (fun rv iv wr=> ∃(i k:Nat) (ra:Option Addr) (rc:Nat),Hid (i≤n∧k=(risTo xs i).length∧k≤most)∧iv= .int .i64 (i:Int)∧rv= .slice ra k rc∧Hid (RisI w (.slice ra k rc) (risTo xs i) wr)) (fun _ iv _=>n- (intOf iv).toNat)
 case atStart=>exact⟨0,0,none,0,hid ⟨Nat.zero_le _,rfl,Nat.zero_le _⟩,rfl,rfl,HI0⟩
 case round=>
  obtain⟨i,k,ra,rc,hK,rfl,rfl,hI⟩:=hrel
  obtain⟨wA,rfl⟩: ∃y,y=wr:=⟨_,rfl⟩
  clear HI0
  have hk1000:k≤1000:=by have:=hK.out;have:=HN.out;omega
  by_cases hgo:i<n∧k<most
  ·have i1:(i:Int)< (n:Int):=by omega
   have i2:(k:Int)< (most:Int):=by omega
   have i0:(0:Int)≤(i:Int):=by omega
   have hin:(i:Int)≤1000000:=by have:=HN.out;omega
   obtain⟨out,hout⟩: ∃o,o=risTo xs i:=⟨_,rfl⟩
   rw[←hout] at hI
   obtain⟨x,hx⟩: ∃x,xs[i]?=some x:=⟨_,List.getElem?_eq_getElem (by have:=HN.out;omega)⟩
   obtain⟨lb,off,rfl,hlb,hlc⟩: ∃lb off,ao=some ⟨lb,off,none⟩∧lb<w.heap.size∧w.cell? ⟨lb,off+i,none⟩=some (.int .u64 x):=by
    rcases HAT.out with h | ⟨lb,off,q1,q2,q3⟩
    ·rw[h] at hx;simp at hx
    ·exact⟨lb,off,q1,q2,q3 i x hx⟩
   have HLC:=hid (fun(W:World) (hb:Below w.heap.size w W)=>(hb.cell (p:=⟨lb,off+i,none⟩) hlb).trans hlc)
   have hko:k=out.length:=by rw[hout];exact hK.out.2.1
   have hrs:risTo xs (i+1)=insU out x:=by
    show insU (risTo xs i) (xs.getD i 0)=_
    rw[←hout,List.getD_eq_getElem?_getD,hx];rfl
   have HR:=hid (⟨hgo.1,hgo.2,hko,hrs⟩:_∧_∧_∧_)
   have HA0:Hid (RisI w (.slice ra k rc) out wA∧ ∀j y,j<0→out[j]?=some y→y<x):=hid ⟨hI.out,fun j y hj=>absurd hj (Nat.not_lt_zero _)⟩
   clear hgo hout hx hlb hlc hko hrs hI hK
   go_wp2
   go_loopw [7] (fun av wr=> ∃a:Nat,a≤k∧av= .int .i64 (a:Int)∧Hid (RisI w (.slice ra k rc) out wr∧ ∀j y,j<a→out[j]?=some y→y<x)) (fun av _=>k- (intOf av).toNat)
   case atStart=>exact⟨0,Nat.zero_le _,rfl,HA0⟩
   case round=>
    obtain⟨a,hak,rfl,hA⟩:=hrel
    obtain⟨wB,rfl⟩: ∃y,y=wr:=⟨_,rfl⟩
    clear HA0
    have a0:(0:Int)≤(a:Int):=by omega
    have y0:=HLC.out wB hA.out.1.bel
    by_cases hlt:a<k
    ·obtain⟨y,hy⟩: ∃y,out[a]?=some y:=⟨_,List.getElem?_eq_getElem (by have:=HR.out.2.2.1;omega)⟩
     obtain⟨gb,rfl,yc⟩: ∃gb,ra=some ⟨gb,0,none⟩∧wB.cell? ⟨gb,a,none⟩=some (.int .u64 y):=by
      have hrow:=hA.out.1.row
      rw[←HR.out.2.2.1] at hrow
      obtain⟨gb,cp,q1,q2,q3,q4,q5⟩:=own_some hrow (by omega)
      injection q1 with q1 _ _
      refine⟨gb,q1,?_⟩
      have:=q5 a (.int .u64 y) (by rw[List.getElem?_map,hy];rfl)
      rw[Nat.zero_add] at this
      exact this
     have d1:decide ((a:Int)< (k:Int))=true:=decide_eq_true (by omega)
     have d1':decide (a<k)=true:=decide_eq_true hlt
     have d0:(a:Int)< (k:Int):=by omega
     by_cases hyx:y<x
     ·have d2:decide (y<x)=true:=decide_eq_true hyx
      have HN2:Hid (RisI w (.slice (some ⟨gb,0,none⟩) k rc) out wB∧ ∀j z,j<a+1→out[j]?=some z→z<x):=hid ⟨hA.out.1,fun j z hj hz=>by
       rcases(by omega:j<a∨j=a) with h | h
       ·exact hA.out.2 j z h hz
       ·rw[h,hy] at hz;injection hz with hz;omega⟩
      have HAK:=hid hlt
      clear hlt hyx hy hak
      go_upto_region 6 with fail
      go_quiet (fail)
      go_wp2
      go_roundw
      case rel=>exact⟨a+1,HAK.out,by go_num,hid ⟨HN2.out.1.bel' ⟨rfl,rfl,rfl,Nat.le_refl _,fun _ _=>rfl⟩,HN2.out.2⟩⟩
      case measure=>simp[intOf];have:=HAK.out;omega
     ·have d2:decide (y<x)=false:=decide_eq_false hyx
      have hat:atU out x=a:=atU_is hA.out.2 (fun z hz=>by rw[hy] at hz;injection hz with hz;omega) (by have:=HR.out.2.2.1;omega)
      go_upto_region 6 with fail
      go_quiet (fail)
      go_upto_region 8 with fail
      obtain⟨wC,hwC⟩: ∃x,x=wB.drewN nq:=⟨_,rfl⟩
      rw[←hwC]
      have hbC:Below wB.heap.size wB wC:=by rw[hwC];exact⟨rfl,rfl,rfl,Nat.le_refl _,fun _ _=>rfl⟩
      have HC:=hid (hA.out.1.bel' hbC)
      have yc2:wC.cell? ⟨gb,a,none⟩=some (.int .u64 y):=by rw[hwC];exact yc
      have y02:wC.cell? ⟨lb,off+i,none⟩=some (.int .u64 x):=by rw[hwC];exact y0
      clear yc y0 hwC hbC d2
      by_cases he:y=x
      ·have e1:(y==x)=true:=by simp[he]
       have hins:insU out x=out:=by unfold insU;rw[hat,hy,he,if_pos rfl]
       have HN3:Hid (i+1≤n∧k=(risTo xs (i+1)).length∧k≤most):=hid ⟨HR.out.1,by rw[HR.out.2.2.2,hins];exact HR.out.2.2.1,by have:=HR.out;omega⟩
       have HC2:Hid (RisI w (.slice (some ⟨gb,0,none⟩) k rc) (risTo xs (i+1)) (wC.drewN 1)):=by
        rw[HR.out.2.2.2,hins]
        exact hid (HC.out.bel' ⟨rfl,rfl,rfl,Nat.le_refl _,fun _ _=>rfl⟩)
       clear hlt hyx hy hak hat hins he hA
       go_quiet (fail)
       go_wp2
       go_roundw
       case rel=>exact⟨i+1,k,_,rc,HN3,by go_num,rfl,hid (HC2.out.bel' ⟨rfl,rfl,rfl,Nat.le_refl _,fun _ _=>rfl⟩)⟩
       case measure=>simp[intOf];have:=HN3.out;omega
      ·have e1:(y==x)=false:=by simp[he]
       go_quiet (fail)
       go_upto_region 9 with fail
       obtain⟨wE,hwE⟩: ∃x,x=wC.drewN nq:=⟨_,rfl⟩
       rw[←hwE]
       have hbW:Below wC.heap.size wC wE:=by rw[hwE];exact⟨rfl,rfl,rfl,Nat.le_refl _,fun _ _=>rfl⟩
       have HE:=hid (HC.out.bel' hbW)
       clear hwE hbW yc2 y02 e1 d1 d1'
       have hins:insU out x=out.take a++x::out.drop a:=by
        unfold insU;rw[hat,hy,if_neg (fun h=>he (Option.some.inj h))]
       obtain⟨hcap,hl1,hl3,hp1,hp3'⟩:=ris_news HE.out HR.out.2.2.1 a hak
       have hp3:=hp3' a (rc-a) (Or.inr rfl)
       have nci: ¬rc=a:=by omega
       have ic:a≤rc:=by omega
       have ic2:(a:Int)≤(rc:Int):=by omega
       clear hp3' hat he hyx hy hA
       have hbE:Below w.heap.size w wE:=HE.out.bel
       have hsE:w.heap.size≤wE.heap.size:=hbE.size
       have yE:wE.drew.cell? ⟨lb,off+i,none⟩=some (.int .u64 x):=HLC.out wE.drew hbE.drew
       have hxx:NewsAt (wE.alloc (.cells #[.int .u64 x] 25)).drew (.slice (some ⟨wE.heap.size,0,none⟩) 1 1) 1 [.int .u64 x]:=Or.inr ⟨wE.heap.size,0,1,rfl,fun j u hj=>by
        have:(wE.alloc (.cells #[.int .u64 x] 25)).drew.cell? ⟨wE.heap.size,0+j,none⟩=_:=(Blk.new wE 25 #[.int .u64 x]).drew.cell (0+j)
        rw[this,Nat.zero_add];simpa using hj⟩
       obtain⟨v1,w1,v2,w2,v3,w3,r1,r2,r3,o1,o2,o3,e3,n3⟩:=threeU1 w.heap.size wE wE.drew (belDrew wE) hsE _ _ (out.take a) (out.drop a) x hp1 hp3 (by rw[hl1,hl3];have:=HR.out.2.2.1;omega)
       obtain⟨u1,x1,u2,x2,u3,x3,q1,q2,q3,m1,m2,m3,f3,k3⟩:=threeU2 w.heap.size wE (wE.alloc (.cells #[.int .u64 x] 25)).drew ((ba (Below.refl _ _) _).drew) hsE _ _ _ (out.take a) (out.drop a) x hxx hp1 hp3 (by rw[hl1,hl3];have:=HR.out.2.2.1;omega)
       rw[←hins] at e3 f3
       obtain⟨va,vc,rfl⟩:=row_form1 e3
       obtain⟨ua,uc,rfl⟩:=row_form1 f3
       have yw1:w1.cell? ⟨lb,off+i,none⟩=some (.int .u64 x):=HLC.out w1 (hbE.trans (o1.below (by simp) hsE))
       have HI1:Hid (RisI w (.slice va (insU out x).length vc) (insU out x) w3):=hid ⟨e3,hbE.trans (o3.below (by simp) hsE)⟩
       have HI2:Hid (RisI w (.slice ua (insU out x).length uc) (insU out x) x3):=hid ⟨f3,hbE.trans (m3.below (by simp) hsE)⟩
       obtain⟨K,hK⟩: ∃K,K=(insU out x).length:=⟨_,rfl⟩
       have HKK:Hid (i+1≤n∧K=(risTo xs (i+1)).length∧K≤most):=hid ⟨HR.out.1,by rw[HR.out.2.2.2,hK],by have:=insU_len out x;have h3:=HR.out.2.1;have h4:=HR.out.2.2.1;omega⟩
       rw[←hK] at r3 q3 HI1 HI2
       rw[←HR.out.2.2.2] at HI1 HI2
       have HKE:=hid hK
       clear hK hp1 hp3 hxx o1 o2 o3 e3 n3 m1 m2 m3 f3 k3 hl1 hl3 hins hbE hsE
       go_region
       ·go_wp2
        go_roundw
        case rel=>exact⟨i+1,K,_,_,HKK,by go_num,rfl,HI1⟩
        case measure=>simp[intOf];have:=HKK.out;omega
       ·go_wp2
        go_roundw
        case rel=>exact⟨i+1,K,_,_,HKK,by go_num,rfl,HI2⟩
        case measure=>simp[intOf];have:=HKK.out;omega
    ·obtain rfl:a=k:=by omega
     have d1:decide ((a:Int)< (a:Int))=false:=decide_eq_false (by omega)
     have d1':decide (a<a)=false:=decide_eq_false (by omega)
     have d0: ¬(a:Int)< (a:Int):=by omega
     have hnone:out[a]?=none:=List.getElem?_eq_none (by have:=HR.out.2.2.1;omega)
     have hat:atU out x=a:=atU_is hA.out.2 (fun z hz=>by rw[hnone] at hz;cases hz) (by have:=HR.out.2.2.1;omega)
     have hins:insU out x=out.take a++x::out.drop a:=by
      unfold insU;rw[hat,hnone,if_neg (fun h=>by cases h)]
     clear hat hnone hlt
     go_upto_region 6 with fail
     go_quiet (fail)
     go_upto_region 8 with fail
     obtain⟨wC,hwC⟩: ∃x,x=wB.drewN nq:=⟨_,rfl⟩
     rw[←hwC]
     have hbC:Below wB.heap.size wB wC:=by rw[hwC];exact⟨rfl,rfl,rfl,Nat.le_refl _,fun _ _=>rfl⟩
     have HC:=hid (hA.out.1.bel' hbC)
     clear hwC hbC
     go_quiet (fail)
     go_upto_region 9 with fail
     obtain⟨wE,hwE⟩: ∃x,x=wC.drewN nq:=⟨_,rfl⟩
     rw[←hwE]
     have hbW:Below wC.heap.size wC wE:=by rw[hwE];exact⟨rfl,rfl,rfl,Nat.le_refl _,fun _ _=>rfl⟩
     have HE:=hid (HC.out.bel' hbW)
     clear hwE hbW y0 d1 d1' hA
     have hrowE:=HE.out.row
     rcases hrowE.2 with⟨h1,h2⟩ | ⟨gb,cap',cur,h1,_⟩
     ·injection h1 with h1 h1a h1b
      subst h1 h1a h1b
      have hoz:out=[]:=List.eq_nil_of_length_eq_zero h2
      have hins1:insU out x=[x]:=by rw[hins,hoz];rfl
      have hbE:Below w.heap.size w wE:=HE.out.bel
      have hsE:w.heap.size≤wE.heap.size:=hbE.size
      have yE:wE.drew.cell? ⟨lb,off+i,none⟩=some (.int .u64 x):=HLC.out wE.drew hbE.drew
      obtain⟨i0',hi0,hz0,hz1,hz2⟩:=info_parts infoU64k
      have hxx:NewsAt (wE.alloc (.cells #[.int .u64 x] 25)).drew (.slice (some ⟨wE.heap.size,0,none⟩) 1 1) 1 [.int .u64 x]:=Or.inr ⟨wE.heap.size,0,1,rfl,fun j u hj=>by
       have:(wE.alloc (.cells #[.int .u64 x] 25)).drew.cell? ⟨wE.heap.size,0+j,none⟩=_:=(Blk.new wE 25 #[.int .u64 x]).drew.cell (0+j)
       rw[this,Nat.zero_add];simpa using hj⟩
      have oA:Only [] wE (wE.alloc (.cells #[.int .u64 x] 25)).drew:=((Only.refl [] wE).alloc _).drew
      obtain⟨v2,w2,r2,e2,g2,b2⟩:=app_u64 w.heap.size (wE.alloc (.cells #[.int .u64 x] 25)).drew (.slice (some ⟨wE.heap.size,0,none⟩) 1 1) [] [x] (.slice none 0 0) hxx (by simp) (Nat.le_trans hsE oA.size) (World.ownsRow_nil _ _ _ _)
      have n1: ∀W,appRun2 Tryz.prog #[22,22] 22 #[.slice none 0 0,.slice none 0 0] W= .ok (.slice none 0 0) W:=fun W=>run_append_owned_none (P:=Tryz.prog) (w:=W) 0 _ _ _ i0' 1 Tryz.underlying22 hi0 _ 0 [] (World.ownsRow_nil _ _ _ _)
      have n3:appRun2 Tryz.prog #[22,22] 22 #[v2,.slice none 0 0] w2= .ok v2 w2:=run_append_owned_none (P:=Tryz.prog) (w:=w2) w.heap.size _ _ _ i0' 1 Tryz.underlying22 hi0 _ _ _ e2
      have o2:Only [] wE w2:=new_onlyU oA g2 (fun k hk=>by simp[Value.ownBlock] at hk)
      obtain⟨va,vc,rfl⟩:=row_form1 e2
      have HI1:Hid (RisI w (.slice va 1 vc) (risTo xs (i+1)) w2):=by
       rw[HR.out.2.2.2,hins1]
       exact hid ⟨e2,hbE.trans (o2.below (by simp) hsE)⟩
      have HKK:Hid (i+1≤n∧1=(risTo xs (i+1)).length∧1≤most):=hid ⟨HR.out.1,by rw[HR.out.2.2.2,hins1];rfl,by have:=HR.out.2.1;omega⟩
      simp only[List.nil_append,List.length_singleton] at r2 n3
      clear hrowE h2 hoz hins hins1 hbE hsE hxx oA e2 g2 b2 o2 hi0 hz0 hz1 hz2 hak
      go_region
      go_wp2
      go_roundw
      case rel=>exact⟨i+1,1,_,_,HKK,by go_num,rfl,HI1⟩
      case measure=>simp[intOf];have:=HKK.out;omega
     ·injection h1 with h1 h1a h1b
      clear h1a h1b
      subst h1
      obtain⟨hcap,hl1,hl3,hp1,hp3'⟩:=ris_news HE.out HR.out.2.2.1 a hak
      obtain⟨o,ho,hoo⟩: ∃o,(if rc=a then some (⟨gb,0,none⟩:Addr) else some ⟨gb,a,none⟩)=some ⟨gb,o,none⟩∧(a=a∨o=a):=by
       split
       ·exact⟨0,rfl,Or.inl rfl⟩
       ·exact⟨a,rfl,Or.inr rfl⟩
      have hp3:=hp3' o (rc-a) hoo
      rw[Nat.sub_self] at hp3
      have ic:a≤rc:=by omega
      have ic2:(a:Int)≤(rc:Int):=by omega
      clear hp3' hoo hrowE
      have hbE:Below w.heap.size w wE:=HE.out.bel
      have hsE:w.heap.size≤wE.heap.size:=hbE.size
      have yE:wE.drew.cell? ⟨lb,off+i,none⟩=some (.int .u64 x):=HLC.out wE.drew hbE.drew
      have hxx:NewsAt (wE.alloc (.cells #[.int .u64 x] 25)).drew (.slice (some ⟨wE.heap.size,0,none⟩) 1 1) 1 [.int .u64 x]:=Or.inr ⟨wE.heap.size,0,1,rfl,fun j u hj=>by
       have:(wE.alloc (.cells #[.int .u64 x] 25)).drew.cell? ⟨wE.heap.size,0+j,none⟩=_:=(Blk.new wE 25 #[.int .u64 x]).drew.cell (0+j)
       rw[this,Nat.zero_add];simpa using hj⟩
      obtain⟨v1,w1,v2,w2,v3,w3,r1,r2,r3,o1,o2,o3,e3,n3⟩:=threeU1 w.heap.size wE wE.drew (belDrew wE) hsE _ _ (out.take a) (out.drop a) x hp1 hp3 (by rw[hl1,hl3];have:=HR.out.2.2.1;omega)
      obtain⟨u1,x1,u2,x2,u3,x3,q1,q2,q3,m1,m2,m3,f3,k3⟩:=threeU2 w.heap.size wE (wE.alloc (.cells #[.int .u64 x] 25)).drew ((ba (Below.refl _ _) _).drew) hsE _ _ _ (out.take a) (out.drop a) x hxx hp1 hp3 (by rw[hl1,hl3];have:=HR.out.2.2.1;omega)
      rw[←hins] at e3 f3
      obtain⟨va,vc,rfl⟩:=row_form1 e3
      obtain⟨ua,uc,rfl⟩:=row_form1 f3
      have yw1:w1.cell? ⟨lb,off+i,none⟩=some (.int .u64 x):=HLC.out w1 (hbE.trans (o1.below (by simp) hsE))
      have HI1:Hid (RisI w (.slice va (insU out x).length vc) (insU out x) w3):=hid ⟨e3,hbE.trans (o3.below (by simp) hsE)⟩
      have HI2:Hid (RisI w (.slice ua (insU out x).length uc) (insU out x) x3):=hid ⟨f3,hbE.trans (m3.below (by simp) hsE)⟩
      obtain⟨K,hK⟩: ∃K,K=(insU out x).length:=⟨_,rfl⟩
      have HKK:Hid (i+1≤n∧K=(risTo xs (i+1)).length∧K≤most):=hid ⟨HR.out.1,by rw[HR.out.2.2.2,hK],by have:=insU_len out x;have h3:=HR.out.2.1;have h4:=HR.out.2.2.1;omega⟩
      rw[←hK] at r3 q3 HI1 HI2
      rw[←HR.out.2.2.2] at HI1 HI2
      have HKE:=hid hK
      clear hK hp1 hp3 hxx o1 o2 o3 e3 n3 m1 m2 m3 f3 k3 hl1 hl3 hins hbE hsE
      go_region
      ·go_wp2
       go_roundw
       case rel=>exact⟨i+1,K,_,_,HKK,by go_num,rfl,HI1⟩
       case measure=>simp[intOf];have:=HKK.out;omega
      ·go_wp2
       go_roundw
       case rel=>exact⟨i+1,K,_,_,HKK,by go_num,rfl,HI2⟩
       case measure=>simp[intOf];have:=HKK.out;omega
  ·have hKo:=hK.out
   by_cases hin:i<n
   ·have i1:(i:Int)< (n:Int):=by omega
    have i2: ¬(k:Int)< (most:Int):=by omega
    have HF:Hid (RisPs w xs most (.returned (.slice ra k rc)) wA):=hid ⟨hI.out.bel,_,i,rfl,by have:=HN.out.1;omega,Or.inr (by omega),by omega,hI.out.row⟩
    clear hgo hin hI hKo
    go_wp2
    go_ret
    exact HF.out
   ·have i1: ¬(i:Int)< (n:Int):=by omega
    have HF:Hid (RisPs w xs most (.returned (.slice ra k rc)) wA):=hid ⟨hI.out.bel,_,i,rfl,by have:=HN.out.1;omega,Or.inl (by have:=HN.out.1;omega),by omega,hI.out.row⟩
    clear hgo hin hI hKo
    go_wp2
    go_ret
    exact HF.out
end
section
attribute [local go_sem ↓ high] atLoadAt atStoreAt
attribute [local go_sem] ldM_run stM_run
def I64 (x:Int):Prop:= -9223372036854775808≤x∧x≤9223372036854775807
end
section
attribute [local go_sem] ldM_run stM_run
end
end Go.Proofs.YtjmaicckkkdjpaaGreat
