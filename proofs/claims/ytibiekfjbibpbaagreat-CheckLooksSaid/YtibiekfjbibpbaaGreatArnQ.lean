/- Keys in order, each once (the document's Rising), walked. -/
import Derived.Test.YtibiekfjbibpbaaGreatArnJ
set_option maxRecDepth 100000
set_option maxHeartbeats 4000000
set_option linter.unusedVariables false
set_option linter.unusedSimpArgs false
namespace Go.Proofs.YtibiekfjbibpbaaGreat
open Go.RowKit
section
attribute [local go_sem ↓ high] append_shut2
attribute [local go_sem] appM2_run
theorem infoU64k:(Tryz.prog.info? 46).map (fun i=>(i.zero,i.size,i.bytes))=some (some (.int .u64 0),1,8):=by kernel_rfl
theorem app_u64 (N:Nat) (W:World) (x:Value) (l news:List Int) (v:Value) (hx:NewsAt W x news.length (news.map (Value.int .u64))) (hm:l.length+news.length≤2000000) (hN:N≤W.heap.size) (hr:W.ownsRow N 46 1 v l.length (l.map (Value.int .u64))):
  ∃v' w',appRun2 Tryz.prog #[22,22] 22 #[v,x] W= .ok v' w'∧w'.ownsRow N 46 1 v' (l++news).length ((l++news).map (Value.int .u64))∧W.grownBy w' v.ownBlock∧(v'.ownBlock=v.ownBlock∨v'.ownBlock=some W.heap.size):=by
 obtain⟨i0,hi0,hz0,hz1,hz2⟩:=info_parts infoU64k
 obtain⟨v',w',h⟩:=run_app (P:=Tryz.prog) W N 22 22 46 i0 (.int .u64 0) 1 8 Tryz.underlying22 hi0 hz0 hz1 hz2 rfl (by decide) v l.length _ hr x news.length _ hx (by simp) (by
  intro u hu
  obtain⟨y,_,rfl⟩:=List.mem_map.1 hu
  rfl) (by unfold maxLen;omega) (by omega) hN
 refine⟨v',w',h.run,?_,h.grown,h.ob⟩
 rw[List.length_append,List.map_append]
 exact h.own
theorem new_onlyU {w W w':World} {o:Option Nat} (ho:Only [] w W) (hg:W.grownBy w' o) (hn: ∀k,o=some k→w.heap.size≤k):Only [] w w':=by
 refine ho.trans (Only.of_grown (f:=o.toList) hg (fun k hk=>by simp[hk])) (fun x hx=>Or.inr (hn x (by simpa using hx)))
theorem own_newU {w W:World} {v v':Value} (ho:Only [] w W) (h:v'.ownBlock=v.ownBlock∨v'.ownBlock=some W.heap.size) (hn: ∀k,v.ownBlock=some k→w.heap.size≤k): ∀k,v'.ownBlock=some k→w.heap.size≤k:=by
 intro k hk
 rcases h with e | e
 ·exact hn k (e▸hk)
 ·rw[e] at hk;injection hk with hk;rw[←hk];exact ho.size
theorem threeU1 (N:Nat) (w W:World) (hW:Below w.heap.size w W) (hN:N≤w.heap.size) (p1 p3:Value) (l1 l3:List Int) (a:Int) (h1:NewsAt w p1 l1.length (l1.map (Value.int .u64))) (h3:NewsAt w p3 l3.length (l3.map (Value.int .u64))) (hm:l1.length+l3.length≤1000000):
  ∃v1 w1 v2 w2 v3 w3,appRun2 Tryz.prog #[22,22] 22 #[.slice none 0 0,p1] W= .ok v1 w1∧
   appRun2 Tryz.prog #[22,22] 22 #[v1,.slice (some ⟨w1.heap.size,0,none⟩) 1 1] (w1.alloc (.cells #[.int .u64 a] 46))= .ok v2 w2∧
   appRun2 Tryz.prog #[22,22] 22 #[v2,p3] w2= .ok v3 w3∧Only [] w w1∧Only [] w w2∧Only [] w w3∧
   w3.ownsRow N 46 1 v3 (l1++a::l3).length ((l1++a::l3).map (Value.int .u64))∧ ∀k,v3.ownBlock=some k→w.heap.size≤k:=by
 have o0:Only [] w W:=Only.of_below hW []
 obtain⟨v1,w1,r1,e1,g1,b1⟩:=app_u64 N W p1 [] l1 (.slice none 0 0) (h1.bel hW) (by simp;omega) (Nat.le_trans hN hW.size) (World.ownsRow_nil _ _ _ _)
 have n0: ∀k,(Value.slice none 0 0).ownBlock=some k→w.heap.size≤k:=fun k hk=>by simp[Value.ownBlock] at hk
 have o1:=new_onlyU o0 g1 n0
 have n1:=own_newU o0 b1 n0
 rw[List.nil_append] at e1
 have o1a:=o1.alloc (.cells #[.int .u64 a] 46)
 obtain⟨v2,w2,r2,e2,g2,b2⟩:=app_u64 N (w1.alloc (.cells #[.int .u64 a] 46)) (.slice (some ⟨w1.heap.size,0,none⟩) 1 1) l1 [a] v1
  (Or.inr ⟨w1.heap.size,0,1,rfl,fun j u hj=>by
   rw[(Blk.new w1 46 #[.int .u64 a]).cell (0+j),Nat.zero_add];simpa using hj⟩) (by simp;omega) (Nat.le_trans hN o1a.size) (e1.alloc _)
 have o2:=new_onlyU o1a g2 n1
 have n2:=own_newU o1a b2 n1
 obtain⟨v3,w3,r3,e3,g3,b3⟩:=app_u64 N w2 p3 (l1++[a]) l3 v2 (h3.bel (o2.below (by simp) (Nat.le_refl _))) (by simp;omega) (Nat.le_trans hN o2.size) e2
 have o3:=new_onlyU o2 g3 n2
 have n3:=own_newU o2 b3 n2
 rw[List.append_assoc,List.singleton_append] at e3
 exact⟨v1,w1,v2,w2,v3,w3,r1,r2,r3,o1,o2,o3,e3,n3⟩
theorem threeU2 (N:Nat) (w W:World) (hW:Below w.heap.size w W) (hN:N≤w.heap.size) (x p1 p3:Value) (l1 l3:List Int) (a:Int) (hx:NewsAt W x 1 [.int .u64 a]) (h1:NewsAt w p1 l1.length (l1.map (Value.int .u64))) (h3:NewsAt w p3 l3.length (l3.map (Value.int .u64))) (hm:l1.length+l3.length≤1000000):
  ∃v1 w1 v2 w2 v3 w3,appRun2 Tryz.prog #[22,22] 22 #[.slice none 0 0,p1] W= .ok v1 w1∧
   appRun2 Tryz.prog #[22,22] 22 #[v1,x] w1= .ok v2 w2∧
   appRun2 Tryz.prog #[22,22] 22 #[v2,p3] w2= .ok v3 w3∧Only [] w w1∧Only [] w w2∧Only [] w w3∧
   w3.ownsRow N 46 1 v3 (l1++a::l3).length ((l1++a::l3).map (Value.int .u64))∧ ∀k,v3.ownBlock=some k→w.heap.size≤k:=by
 have o0:Only [] w W:=Only.of_below hW []
 obtain⟨v1,w1,r1,e1,g1,b1⟩:=app_u64 N W p1 [] l1 (.slice none 0 0) (h1.bel hW) (by simp;omega) (Nat.le_trans hN hW.size) (World.ownsRow_nil _ _ _ _)
 have n0: ∀k,(Value.slice none 0 0).ownBlock=some k→w.heap.size≤k:=fun k hk=>by simp[Value.ownBlock] at hk
 have nW: ∀k,(Value.slice none 0 0).ownBlock=some k→W.heap.size≤k:=fun k hk=>by simp[Value.ownBlock] at hk
 have o1:=new_onlyU o0 g1 n0
 have oW:=new_onlyU (Only.refl [] W) g1 nW
 have n1:=own_newU o0 b1 n0
 rw[List.nil_append] at e1
 obtain⟨v2,w2,r2,e2,g2,b2⟩:=app_u64 N w1 x l1 [a] v1 (hx.bel (oW.below (by simp) (Nat.le_refl _))) (by simp;omega) (Nat.le_trans hN o1.size) e1
 have o2:=new_onlyU o1 g2 n1
 have n2:=own_newU o1 b2 n1
 obtain⟨v3,w3,r3,e3,g3,b3⟩:=app_u64 N w2 p3 (l1++[a]) l3 v2 (h3.bel (o2.below (by simp) (Nat.le_refl _))) (by simp;omega) (Nat.le_trans hN o2.size) e2
 have o3:=new_onlyU o2 g3 n2
 have n3:=own_newU o2 b3 n2
 rw[List.append_assoc,List.singleton_append] at e3
 exact⟨v1,w1,v2,w2,v3,w3,r1,r2,r3,o1,o2,o3,e3,n3⟩
def atU (out:List Int) (x:Int):Nat:=(out.takeWhile fun y=>decide (y<x)).length
def insU (out:List Int) (x:Int):List Int:=if out[atU out x]?=some x then out else out.take (atU out x)++x::out.drop (atU out x)
def risTo (xs:List Int):Nat→List Int
 | 0=>[]
 | i+1=>insU (risTo xs i) (xs.getD i 0)
theorem atU_is {out:List Int} {x:Int} {a:Nat} (h: ∀j y,j<a→out[j]?=some y→y<x) (hn: ∀y,out[a]?=some y→ ¬y<x) (ha:a≤out.length):atU out x=a:=by
 unfold atU
 induction out generalizing a with
 | nil=>simp at ha;simp[ha]
 | cons y ys ih=>
  cases a with
  | zero=>have:=hn y rfl;simp[this]
  | succ a=>
   have h0:=h 0 y (by omega) rfl
   have:=ih (a:=a) (fun j z hj hz=>h (j+1) z (by omega) hz) (fun z hz=>hn z hz) (by simpa using ha)
   simp[h0,this]
theorem insU_len (out:List Int) (x:Int):(insU out x).length≤out.length+1:=by
 unfold insU
 split
 ·omega
 ·rw[List.length_append,List.length_cons,List.length_take,List.length_drop];omega
theorem insU_in {out:List Int} {x y:Int} (h:y∈insU out x):y∈out∨y=x:=by
 unfold insU at h
 split at h
 ·exact Or.inl h
 ·rcases List.mem_append.1 h with h | h
  ·exact Or.inl (List.mem_of_mem_take h)
  ·rcases List.mem_cons.1 h with h | h
   ·exact Or.inr h
   ·exact Or.inl (List.mem_of_mem_drop h)
theorem risTo_in {xs:List Int}: ∀{i:Nat},i≤xs.length→ ∀y∈risTo xs i,y∈xs
 | 0,_,y,h=>by cases h
 | i+1,hi,y,h=>by
  rcases insU_in h with h | h
  ·exact risTo_in (by omega) y h
  ·rw[h,List.getD_eq_getElem?_getD,List.getElem?_eq_getElem (by omega)]
   exact List.getElem_mem _
structure RisI (w:World) (v:Value) (out:List Int) (W:World):Prop where
 row:W.ownsRow w.heap.size 46 1 v out.length (out.map (Value.int .u64))
 bel:Below w.heap.size w W
theorem RisI.bel' {w:World} {v:Value} {out:List Int} {W W':World} (h:RisI w v out W) (hb:Below W.heap.size W W'):RisI w v out W':=⟨(Only.of_below hb []).own h.row (by simp),h.bel.trans (hb.mono h.bel.size)⟩
theorem ris_news {w:World} {gb k rc:Nat} {out:List Int} {W:World} (h:RisI w (.slice (some ⟨gb,0,none⟩) k rc) out W) (hk:k=out.length) (a:Nat) (ha:a≤k):
  k≤rc∧(out.take a).length=a∧(out.drop a).length=k-a∧NewsAt W (.slice (some ⟨gb,0,none⟩) a rc) (out.take a).length ((out.take a).map (Value.int .u64))∧
   ∀o c,(k=a∨o=a)→NewsAt W (.slice (some ⟨gb,o,none⟩) (k-a) c) (out.drop a).length ((out.drop a).map (Value.int .u64)):=by
 have hl1:(out.take a).length=a:=by rw[List.length_take,←hk];omega
 have hl3:(out.drop a).length=k-a:=by rw[List.length_drop,←hk]
 have hrow:=h.row
 subst hk
 have hle:out.length≤rc:=by
  rcases hrow.2 with⟨h1,_⟩ | ⟨g',cap',cur,h1,h2,h3,h4,_⟩
  ·cases h1
  ·injection h1 with _ _ hc;omega
 have hcell: ∀j,j<out.length→W.cell? ⟨gb,j,none⟩=(out.map (Value.int .u64))[j]?:=fun j hj=>hrow.cellAt j (by omega)
 refine⟨hle,hl1,hl3,Or.inr ⟨gb,0,rc,by rw[hl1],fun j u hj=> ?_⟩,fun o c ho=> ?_⟩
 ·have hj1:=(List.getElem?_eq_some_iff.1 hj).1
  rw[List.length_map,hl1] at hj1
  rw[Nat.zero_add,hcell j (by omega),←hj,List.map_take,List.getElem?_take,if_pos hj1]
 ·rw[hl3]
  refine Or.inr ⟨gb,o,c,rfl,fun j u hj=> ?_⟩
  have hj1:=(List.getElem?_eq_some_iff.1 hj).1
  rw[List.length_map,hl3] at hj1
  rcases ho with ho | ho
  ·omega
  ·rw[ho,hcell (a+j) (by omega),←hj,List.map_drop,List.getElem?_drop]
def RisPs (w:World) (xs:List Int) (most:Nat) (e:Ending) (w':World):Prop:=
 Below w.heap.size w w'∧ ∃v j,e= .returned v∧j≤xs.length∧(j=xs.length∨most≤(risTo xs j).length)∧(risTo xs j).length≤most∧w'.ownsRow w.heap.size 46 1 v (risTo xs j).length ((risTo xs j).map (Value.int .u64))
theorem Rising_z (xs:List Int) (most:Nat) (lv:Value) (hl:xs.length≤1000000) (hm:most≤1000) (w:World) (h:NumsAt .u64 w lv xs):
  Calls Tryz.prog 18 #[lv,.int .i64 (most:Int)] w fun e w'=>RisPs w xs most e w':=by
 obtain⟨ao,cap,rfl,hat⟩:=h
 obtain⟨n,hn⟩: ∃n,n=xs.length:=⟨_,rfl⟩
 rw[←hn]
 have HN:=hid (⟨hn,hl,hm⟩:_∧_∧_)
 have HAT:=hid hat
 have HI0:Hid (RisI w (.slice none 0 0) (risTo xs 0) w):=hid ⟨World.ownsRow_nil _ _ _ _,Below.refl _ _⟩
 clear hn hl hm hat
 go_enter Tryz.func18,Tryz.ntmps18
 go_wp2
 go_loopw [5,6] (fun rv iv wr=> ∃(i k:Nat) (ra:Option Addr) (rc:Nat),Hid (i≤n∧k=(risTo xs i).length∧k≤most)∧iv= .int .i64 (i:Int)∧rv= .slice ra k rc∧Hid (RisI w (.slice ra k rc) (risTo xs i) wr)) (fun _ iv _=>n- (intOf iv).toNat)
 case atStart=>exact⟨0,0,none,0,hid ⟨Nat.zero_le _,rfl,Nat.zero_le _⟩,rfl,rfl,HI0⟩
 case round=>
  obtain⟨i,k,ra,rc,hK,rfl,rfl,hI⟩:=hrel
  obtain⟨wA,rfl⟩: ∃y,y=wr:=⟨_,rfl⟩
  clear HI0
  have hk1000:k≤1000:=by have:=hK.out;have:=HN.out;omega
  by_cases hgo:i<n∧k<most
  ·have i1:(i:Int)< (n:Int):=by omega
   have i2:(k:Int)< (most:Int):=by omega
   have i0:(0:Int)≤(i:Int):=by omega
   have hin:(i:Int)≤1000000:=by have:=HN.out;omega
   obtain⟨out,hout⟩: ∃o,o=risTo xs i:=⟨_,rfl⟩
   rw[←hout] at hI
   obtain⟨x,hx⟩: ∃x,xs[i]?=some x:=⟨_,List.getElem?_eq_getElem (by have:=HN.out;omega)⟩
   obtain⟨lb,off,rfl,hlb,hlc⟩: ∃lb off,ao=some ⟨lb,off,none⟩∧lb<w.heap.size∧w.cell? ⟨lb,off+i,none⟩=some (.int .u64 x):=by
    rcases HAT.out with h | ⟨lb,off,q1,q2,q3⟩
    ·rw[h] at hx;simp at hx
    ·exact⟨lb,off,q1,q2,q3 i x hx⟩
   have HLC:=hid (fun(W:World) (hb:Below w.heap.size w W)=>(hb.cell (p:=⟨lb,off+i,none⟩) hlb).trans hlc)
   have hko:k=out.length:=by rw[hout];exact hK.out.2.1
   have hrs:risTo xs (i+1)=insU out x:=by
    show insU (risTo xs i) (xs.getD i 0)=_
    rw[←hout,List.getD_eq_getElem?_getD,hx];rfl
   have HR:=hid (⟨hgo.1,hgo.2,hko,hrs⟩:_∧_∧_∧_)
   have HA0:Hid (RisI w (.slice ra k rc) out wA∧ ∀j y,j<0→out[j]?=some y→y<x):=hid ⟨hI.out,fun j y hj=>absurd hj (Nat.not_lt_zero _)⟩
   clear hgo hout hx hlb hlc hko hrs hI hK
   go_wp2
   go_loopw [7] (fun av wr=> ∃a:Nat,a≤k∧av= .int .i64 (a:Int)∧Hid (RisI w (.slice ra k rc) out wr∧ ∀j y,j<a→out[j]?=some y→y<x)) (fun av _=>k- (intOf av).toNat)
   case atStart=>exact⟨0,Nat.zero_le _,rfl,HA0⟩
   case round=>
    obtain⟨a,hak,rfl,hA⟩:=hrel
    obtain⟨wB,rfl⟩: ∃y,y=wr:=⟨_,rfl⟩
    clear HA0
    have a0:(0:Int)≤(a:Int):=by omega
    have y0:=HLC.out wB hA.out.1.bel
    by_cases hlt:a<k
    ·obtain⟨y,hy⟩: ∃y,out[a]?=some y:=⟨_,List.getElem?_eq_getElem (by have:=HR.out.2.2.1;omega)⟩
     obtain⟨gb,rfl,yc⟩: ∃gb,ra=some ⟨gb,0,none⟩∧wB.cell? ⟨gb,a,none⟩=some (.int .u64 y):=by
      have hrow:=hA.out.1.row
      rw[←HR.out.2.2.1] at hrow
      obtain⟨gb,cp,q1,q2,q3,q4,q5⟩:=own_some hrow (by omega)
      injection q1 with q1 _ _
      refine⟨gb,q1,?_⟩
      have:=q5 a (.int .u64 y) (by rw[List.getElem?_map,hy];rfl)
      rw[Nat.zero_add] at this
      exact this
     have d1:decide ((a:Int)< (k:Int))=true:=decide_eq_true (by omega)
     have d1':decide (a<k)=true:=decide_eq_true hlt
     have d0:(a:Int)< (k:Int):=by omega
     by_cases hyx:y<x
     ·have d2:decide (y<x)=true:=decide_eq_true hyx
      have HN2:Hid (RisI w (.slice (some ⟨gb,0,none⟩) k rc) out wB∧ ∀j z,j<a+1→out[j]?=some z→z<x):=hid ⟨hA.out.1,fun j z hj hz=>by
       rcases(by omega:j<a∨j=a) with h | h
       ·exact hA.out.2 j z h hz
       ·rw[h,hy] at hz;injection hz with hz;omega⟩
      have HAK:=hid hlt
      clear hlt hyx hy hak
      go_upto_region 6 with fail
      go_quiet (fail)
      go_wp2
      go_roundw
      case rel=>exact⟨a+1,HAK.out,by go_num,hid ⟨HN2.out.1.bel' ⟨rfl,rfl,rfl,Nat.le_refl _,fun _ _=>rfl⟩,HN2.out.2⟩⟩
      case measure=>simp[intOf];have:=HAK.out;omega
     ·have d2:decide (y<x)=false:=decide_eq_false hyx
      have hat:atU out x=a:=atU_is hA.out.2 (fun z hz=>by rw[hy] at hz;injection hz with hz;omega) (by have:=HR.out.2.2.1;omega)
      go_upto_region 6 with fail
      go_quiet (fail)
      go_upto_region 8 with fail
      obtain⟨wC,hwC⟩: ∃x,x=wB.drewN nq:=⟨_,rfl⟩
      rw[←hwC]
      have hbC:Below wB.heap.size wB wC:=by rw[hwC];exact⟨rfl,rfl,rfl,Nat.le_refl _,fun _ _=>rfl⟩
      have HC:=hid (hA.out.1.bel' hbC)
      have yc2:wC.cell? ⟨gb,a,none⟩=some (.int .u64 y):=by rw[hwC];exact yc
      have y02:wC.cell? ⟨lb,off+i,none⟩=some (.int .u64 x):=by rw[hwC];exact y0
      clear yc y0 hwC hbC d2
      by_cases he:y=x
      ·have e1:(y==x)=true:=by simp[he]
       have hins:insU out x=out:=by unfold insU;rw[hat,hy,he,if_pos rfl]
       have HN3:Hid (i+1≤n∧k=(risTo xs (i+1)).length∧k≤most):=hid ⟨HR.out.1,by rw[HR.out.2.2.2,hins];exact HR.out.2.2.1,by have:=HR.out;omega⟩
       have HC2:Hid (RisI w (.slice (some ⟨gb,0,none⟩) k rc) (risTo xs (i+1)) (wC.drewN 1)):=by
        rw[HR.out.2.2.2,hins]
        exact hid (HC.out.bel' ⟨rfl,rfl,rfl,Nat.le_refl _,fun _ _=>rfl⟩)
       clear hlt hyx hy hak hat hins he hA
       go_quiet (fail)
       go_wp2
       go_roundw
       case rel=>exact⟨i+1,k,_,rc,HN3,by go_num,rfl,hid (HC2.out.bel' ⟨rfl,rfl,rfl,Nat.le_refl _,fun _ _=>rfl⟩)⟩
       case measure=>simp[intOf];have:=HN3.out;omega
      ·have e1:(y==x)=false:=by simp[he]
       go_quiet (fail)
       go_upto_region 9 with fail
       obtain⟨wE,hwE⟩: ∃x,x=wC.drewN nq:=⟨_,rfl⟩
       rw[←hwE]
       have hbW:Below wC.heap.size wC wE:=by rw[hwE];exact⟨rfl,rfl,rfl,Nat.le_refl _,fun _ _=>rfl⟩
       have HE:=hid (HC.out.bel' hbW)
       clear hwE hbW yc2 y02 e1 d1 d1'
       have hins:insU out x=out.take a++x::out.drop a:=by
        unfold insU;rw[hat,hy,if_neg (fun h=>he (Option.some.inj h))]
       obtain⟨hcap,hl1,hl3,hp1,hp3'⟩:=ris_news HE.out HR.out.2.2.1 a hak
       have hp3:=hp3' a (rc-a) (Or.inr rfl)
       have nci: ¬rc=a:=by omega
       have ic:a≤rc:=by omega
       have ic2:(a:Int)≤(rc:Int):=by omega
       clear hp3' hat he hyx hy hA
       have hbE:Below w.heap.size w wE:=HE.out.bel
       have hsE:w.heap.size≤wE.heap.size:=hbE.size
       have yE:wE.drew.cell? ⟨lb,off+i,none⟩=some (.int .u64 x):=HLC.out wE.drew hbE.drew
       have hxx:NewsAt (wE.alloc (.cells #[.int .u64 x] 46)).drew (.slice (some ⟨wE.heap.size,0,none⟩) 1 1) 1 [.int .u64 x]:=Or.inr ⟨wE.heap.size,0,1,rfl,fun j u hj=>by
        have:(wE.alloc (.cells #[.int .u64 x] 46)).drew.cell? ⟨wE.heap.size,0+j,none⟩=_:=(Blk.new wE 46 #[.int .u64 x]).drew.cell (0+j)
        rw[this,Nat.zero_add];simpa using hj⟩
       obtain⟨v1,w1,v2,w2,v3,w3,r1,r2,r3,o1,o2,o3,e3,n3⟩:=threeU1 w.heap.size wE wE.drew (belDrew wE) hsE _ _ (out.take a) (out.drop a) x hp1 hp3 (by rw[hl1,hl3];have:=HR.out.2.2.1;omega)
       obtain⟨u1,x1,u2,x2,u3,x3,q1,q2,q3,m1,m2,m3,f3,k3⟩:=threeU2 w.heap.size wE (wE.alloc (.cells #[.int .u64 x] 46)).drew ((ba (Below.refl _ _) _).drew) hsE _ _ _ (out.take a) (out.drop a) x hxx hp1 hp3 (by rw[hl1,hl3];have:=HR.out.2.2.1;omega)
       rw[←hins] at e3 f3
       obtain⟨va,vc,rfl⟩:=row_form1 e3
       obtain⟨ua,uc,rfl⟩:=row_form1 f3
       have yw1:w1.cell? ⟨lb,off+i,none⟩=some (.int .u64 x):=HLC.out w1 (hbE.trans (o1.below (by simp) hsE))
       have HI1:Hid (RisI w (.slice va (insU out x).length vc) (insU out x) w3):=hid ⟨e3,hbE.trans (o3.below (by simp) hsE)⟩
       have HI2:Hid (RisI w (.slice ua (insU out x).length uc) (insU out x) x3):=hid ⟨f3,hbE.trans (m3.below (by simp) hsE)⟩
       obtain⟨K,hK⟩: ∃K,K=(insU out x).length:=⟨_,rfl⟩
       have HKK:Hid (i+1≤n∧K=(risTo xs (i+1)).length∧K≤most):=hid ⟨HR.out.1,by rw[HR.out.2.2.2,hK],by have:=insU_len out x;have h3:=HR.out.2.1;have h4:=HR.out.2.2.1;omega⟩
       rw[←hK] at r3 q3 HI1 HI2
       rw[←HR.out.2.2.2] at HI1 HI2
       have HKE:=hid hK
       clear hK hp1 hp3 hxx o1 o2 o3 e3 n3 m1 m2 m3 f3 k3 hl1 hl3 hins hbE hsE
       go_region
       ·go_wp2
        go_roundw
        case rel=>exact⟨i+1,K,_,_,HKK,by go_num,rfl,HI1⟩
        case measure=>simp[intOf];have:=HKK.out;omega
       ·go_wp2
        go_roundw
        case rel=>exact⟨i+1,K,_,_,HKK,by go_num,rfl,HI2⟩
        case measure=>simp[intOf];have:=HKK.out;omega
    ·obtain rfl:a=k:=by omega
     have d1:decide ((a:Int)< (a:Int))=false:=decide_eq_false (by omega)
     have d1':decide (a<a)=false:=decide_eq_false (by omega)
     have d0: ¬(a:Int)< (a:Int):=by omega
     have hnone:out[a]?=none:=List.getElem?_eq_none (by have:=HR.out.2.2.1;omega)
     have hat:atU out x=a:=atU_is hA.out.2 (fun z hz=>by rw[hnone] at hz;cases hz) (by have:=HR.out.2.2.1;omega)
     have hins:insU out x=out.take a++x::out.drop a:=by
      unfold insU;rw[hat,hnone,if_neg (fun h=>by cases h)]
     clear hat hnone hlt
     go_upto_region 6 with fail
     go_quiet (fail)
     go_upto_region 8 with fail
     obtain⟨wC,hwC⟩: ∃x,x=wB.drewN nq:=⟨_,rfl⟩
     rw[←hwC]
     have hbC:Below wB.heap.size wB wC:=by rw[hwC];exact⟨rfl,rfl,rfl,Nat.le_refl _,fun _ _=>rfl⟩
     have HC:=hid (hA.out.1.bel' hbC)
     clear hwC hbC
     go_quiet (fail)
     go_upto_region 9 with fail
     obtain⟨wE,hwE⟩: ∃x,x=wC.drewN nq:=⟨_,rfl⟩
     rw[←hwE]
     have hbW:Below wC.heap.size wC wE:=by rw[hwE];exact⟨rfl,rfl,rfl,Nat.le_refl _,fun _ _=>rfl⟩
     have HE:=hid (HC.out.bel' hbW)
     clear hwE hbW y0 d1 d1' hA
     have hrowE:=HE.out.row
     rcases hrowE.2 with⟨h1,h2⟩ | ⟨gb,cap',cur,h1,_⟩
     ·injection h1 with h1 h1a h1b
      subst h1 h1a h1b
      have hoz:out=[]:=List.eq_nil_of_length_eq_zero h2
      have hins1:insU out x=[x]:=by rw[hins,hoz];rfl
      have hbE:Below w.heap.size w wE:=HE.out.bel
      have hsE:w.heap.size≤wE.heap.size:=hbE.size
      have yE:wE.drew.cell? ⟨lb,off+i,none⟩=some (.int .u64 x):=HLC.out wE.drew hbE.drew
      obtain⟨i0',hi0,hz0,hz1,hz2⟩:=info_parts infoU64k
      have hxx:NewsAt (wE.alloc (.cells #[.int .u64 x] 46)).drew (.slice (some ⟨wE.heap.size,0,none⟩) 1 1) 1 [.int .u64 x]:=Or.inr ⟨wE.heap.size,0,1,rfl,fun j u hj=>by
       have:(wE.alloc (.cells #[.int .u64 x] 46)).drew.cell? ⟨wE.heap.size,0+j,none⟩=_:=(Blk.new wE 46 #[.int .u64 x]).drew.cell (0+j)
       rw[this,Nat.zero_add];simpa using hj⟩
      have oA:Only [] wE (wE.alloc (.cells #[.int .u64 x] 46)).drew:=((Only.refl [] wE).alloc _).drew
      obtain⟨v2,w2,r2,e2,g2,b2⟩:=app_u64 w.heap.size (wE.alloc (.cells #[.int .u64 x] 46)).drew (.slice (some ⟨wE.heap.size,0,none⟩) 1 1) [] [x] (.slice none 0 0) hxx (by simp) (Nat.le_trans hsE oA.size) (World.ownsRow_nil _ _ _ _)
      have n1: ∀W,appRun2 Tryz.prog #[22,22] 22 #[.slice none 0 0,.slice none 0 0] W= .ok (.slice none 0 0) W:=fun W=>run_append_owned_none (P:=Tryz.prog) (w:=W) 0 _ _ _ i0' 1 Tryz.underlying22 hi0 _ 0 [] (World.ownsRow_nil _ _ _ _)
      have n3:appRun2 Tryz.prog #[22,22] 22 #[v2,.slice none 0 0] w2= .ok v2 w2:=run_append_owned_none (P:=Tryz.prog) (w:=w2) w.heap.size _ _ _ i0' 1 Tryz.underlying22 hi0 _ _ _ e2
      have o2:Only [] wE w2:=new_onlyU oA g2 (fun k hk=>by simp[Value.ownBlock] at hk)
      obtain⟨va,vc,rfl⟩:=row_form1 e2
      have HI1:Hid (RisI w (.slice va 1 vc) (risTo xs (i+1)) w2):=by
       rw[HR.out.2.2.2,hins1]
       exact hid ⟨e2,hbE.trans (o2.below (by simp) hsE)⟩
      have HKK:Hid (i+1≤n∧1=(risTo xs (i+1)).length∧1≤most):=hid ⟨HR.out.1,by rw[HR.out.2.2.2,hins1];rfl,by have:=HR.out.2.1;omega⟩
      simp only[List.nil_append,List.length_singleton] at r2 n3
      clear hrowE h2 hoz hins hins1 hbE hsE hxx oA e2 g2 b2 o2 hi0 hz0 hz1 hz2 hak
      go_region
      go_wp2
      go_roundw
      case rel=>exact⟨i+1,1,_,_,HKK,by go_num,rfl,HI1⟩
      case measure=>simp[intOf];have:=HKK.out;omega
     ·injection h1 with h1 h1a h1b
      clear h1a h1b
      subst h1
      obtain⟨hcap,hl1,hl3,hp1,hp3'⟩:=ris_news HE.out HR.out.2.2.1 a hak
      obtain⟨o,ho,hoo⟩: ∃o,(if rc=a then some (⟨gb,0,none⟩:Addr) else some ⟨gb,a,none⟩)=some ⟨gb,o,none⟩∧(a=a∨o=a):=by
       split
       ·exact⟨0,rfl,Or.inl rfl⟩
       ·exact⟨a,rfl,Or.inr rfl⟩
      have hp3:=hp3' o (rc-a) hoo
      rw[Nat.sub_self] at hp3
      have ic:a≤rc:=by omega
      have ic2:(a:Int)≤(rc:Int):=by omega
      clear hp3' hoo hrowE
      have hbE:Below w.heap.size w wE:=HE.out.bel
      have hsE:w.heap.size≤wE.heap.size:=hbE.size
      have yE:wE.drew.cell? ⟨lb,off+i,none⟩=some (.int .u64 x):=HLC.out wE.drew hbE.drew
      have hxx:NewsAt (wE.alloc (.cells #[.int .u64 x] 46)).drew (.slice (some ⟨wE.heap.size,0,none⟩) 1 1) 1 [.int .u64 x]:=Or.inr ⟨wE.heap.size,0,1,rfl,fun j u hj=>by
       have:(wE.alloc (.cells #[.int .u64 x] 46)).drew.cell? ⟨wE.heap.size,0+j,none⟩=_:=(Blk.new wE 46 #[.int .u64 x]).drew.cell (0+j)
       rw[this,Nat.zero_add];simpa using hj⟩
      obtain⟨v1,w1,v2,w2,v3,w3,r1,r2,r3,o1,o2,o3,e3,n3⟩:=threeU1 w.heap.size wE wE.drew (belDrew wE) hsE _ _ (out.take a) (out.drop a) x hp1 hp3 (by rw[hl1,hl3];have:=HR.out.2.2.1;omega)
      obtain⟨u1,x1,u2,x2,u3,x3,q1,q2,q3,m1,m2,m3,f3,k3⟩:=threeU2 w.heap.size wE (wE.alloc (.cells #[.int .u64 x] 46)).drew ((ba (Below.refl _ _) _).drew) hsE _ _ _ (out.take a) (out.drop a) x hxx hp1 hp3 (by rw[hl1,hl3];have:=HR.out.2.2.1;omega)
      rw[←hins] at e3 f3
      obtain⟨va,vc,rfl⟩:=row_form1 e3
      obtain⟨ua,uc,rfl⟩:=row_form1 f3
      have yw1:w1.cell? ⟨lb,off+i,none⟩=some (.int .u64 x):=HLC.out w1 (hbE.trans (o1.below (by simp) hsE))
      have HI1:Hid (RisI w (.slice va (insU out x).length vc) (insU out x) w3):=hid ⟨e3,hbE.trans (o3.below (by simp) hsE)⟩
      have HI2:Hid (RisI w (.slice ua (insU out x).length uc) (insU out x) x3):=hid ⟨f3,hbE.trans (m3.below (by simp) hsE)⟩
      obtain⟨K,hK⟩: ∃K,K=(insU out x).length:=⟨_,rfl⟩
      have HKK:Hid (i+1≤n∧K=(risTo xs (i+1)).length∧K≤most):=hid ⟨HR.out.1,by rw[HR.out.2.2.2,hK],by have:=insU_len out x;have h3:=HR.out.2.1;have h4:=HR.out.2.2.1;omega⟩
      rw[←hK] at r3 q3 HI1 HI2
      rw[←HR.out.2.2.2] at HI1 HI2
      have HKE:=hid hK
      clear hK hp1 hp3 hxx o1 o2 o3 e3 n3 m1 m2 m3 f3 k3 hl1 hl3 hins hbE hsE
      go_region
      ·go_wp2
       go_roundw
       case rel=>exact⟨i+1,K,_,_,HKK,by go_num,rfl,HI1⟩
       case measure=>simp[intOf];have:=HKK.out;omega
      ·go_wp2
       go_roundw
       case rel=>exact⟨i+1,K,_,_,HKK,by go_num,rfl,HI2⟩
       case measure=>simp[intOf];have:=HKK.out;omega
  ·have hKo:=hK.out
   by_cases hin:i<n
   ·have i1:(i:Int)< (n:Int):=by omega
    have i2: ¬(k:Int)< (most:Int):=by omega
    have HF:Hid (RisPs w xs most (.returned (.slice ra k rc)) wA):=hid ⟨hI.out.bel,_,i,rfl,by have:=HN.out.1;omega,Or.inr (by omega),by omega,hI.out.row⟩
    clear hgo hin hI hKo
    go_wp2
    go_ret
    exact HF.out
   ·have i1: ¬(i:Int)< (n:Int):=by omega
    have HF:Hid (RisPs w xs most (.returned (.slice ra k rc)) wA):=hid ⟨hI.out.bel,_,i,rfl,by have:=HN.out.1;omega,Or.inl (by have:=HN.out.1;omega),by omega,hI.out.row⟩
    clear hgo hin hI hKo
    go_wp2
    go_ret
    exact HF.out
end
section
attribute [local go_sem ↓ high] atLoadAt atStoreAt
attribute [local go_sem] ldM_run stM_run
structure SpA (W:World) (N g b n:Nat) (R:AR) (lv:Value) (rows:List (List (Nat×NodeA))):Prop where
 ar:ArIs W g b n R lv
 lvs:LvsA W N lv rows
 sl:n=1024*(R.slabs+1)∧1≤R.slabs∧R.slabs≤64
 rne:rows≠[]
 rl:rows.length≤100
 rin: ∀r∈rows,r≠[]∧r.length≤1000∧ ∀x∈r,x.1+192≤n
theorem SpA.bel {W W':World} {N g b n:Nat} {R:AR} {lv:Value} {rows:List (List (Nat×NodeA))} (h:SpA W N g b n R lv rows) (hb:Below W.heap.size W W'):SpA W' N g b n R lv rows:=
 ⟨h.ar.bel hb,h.lvs.only (Only.of_below hb []) (fun k hk=>by cases hk),h.sl,h.rne,h.rl,h.rin⟩
theorem SpA.row {W:World} {N g b n:Nat} {R:AR} {lv:Value} {rows:List (List (Nat×NodeA))} (h:SpA W N g b n R lv rows) {i:Nat} (hi:i<rows.length): ∃gl cl rb rl rc row,lv= .slice (some ⟨gl,0,none⟩) rows.length cl∧gl<W.heap.size∧rows[i]?=some row∧W.cell? ⟨gl,i,none⟩=some (.slice (some ⟨rb,0,none⟩) rl rc)∧rl=row.length∧0<rl∧rl≤1000∧rb<W.heap.size∧rowA W N (.slice (some ⟨rb,0,none⟩) rl rc) row∧ ∀x∈row,x.1+192≤n:=by
 obtain⟨vs,v1,v2,v3⟩:=h.lvs
 have hrow:rows[i]?=some rows[i]:=List.getElem?_eq_getElem hi
 obtain⟨gl,cl,e1,_,_,g3,g4⟩:=own_some v2 (by omega)
 obtain⟨rv,v4,v5,v6⟩:=v3 i _ hrow
 obtain⟨ro,rc,rfl⟩:=row_form1 v6
 have hin:=h.rin _ (List.mem_of_getElem? hrow)
 have h0:0< (rows[i]).length:=List.length_pos_iff.2 hin.1
 have: ∃rb,ro=some ⟨rb,0,none⟩∧rb<W.heap.size:=by
  rcases v6.2 with⟨h3,h4⟩ | ⟨rb,cap',cur,h3,_,h5,_⟩
  ·omega
  ·injection h3 with h3 _ _;exact⟨rb,h3,(Array.getElem?_eq_some_iff.1 h5).1⟩
 obtain⟨rb,rfl,hrb⟩:=this
 have h8:=g4 i _ v4
 rw[Nat.zero_add] at h8
 exact⟨gl,cl,rb,_,rc,_,e1,g3,hrow,h8,rfl,h0,hin.2.1,hrb,v6,hin.2.2⟩
structure Sp where
 kind:Int
 which:Int
 n:Int
 at':Int
 how:Int
 w:Int
def spC (s:Sp):Array Value:= #[.int .i64 s.kind,.int .i64 s.which,.int .i64 s.n,.int .i64 s.at',.int .i64 s.how,.int .u64 s.w]
def I64 (x:Int):Prop:= -9223372036854775808≤x∧x≤9223372036854775807
structure SpOK (s:Sp):Prop where
 kind:I64 s.kind
 which:I64 s.which
 n:I64 s.n
 at':I64 s.at'
 how:I64 s.how
 w:U64 s.w
theorem umod (A:Int) (m:Nat) (hm:0<m): ∃r:Nat,r<m∧Int.tmod (IntKind.u64.wrap A) (m:Int)=(r:Int):=by
 have h0:0≤IntKind.u64.wrap A:=by rw[IntKind.wrap_u64];omega
 have h1:=Int.tmod_nonneg (m:Int) h0
 have h2:=Int.tmod_lt_of_pos (IntKind.u64.wrap A) (show(0:Int)< (m:Int) by omega)
 exact⟨(Int.tmod (IntKind.u64.wrap A) (m:Int)).toNat,by omega,by omega⟩
theorem at_ld_at {W:World} {N rb m c:Nat} {row:List (Nat×NodeA)} {i:Nat} {xx:Nat×NodeA} (h:rowA W N (.slice (some ⟨rb,0,none⟩) m c) row) (hxx:row[i]?=some xx):ldR Tryz.prog 57 (.pointer (some ⟨rb,i*22,none⟩)) W= .ok (.agg (atC xx.1 xx.2)) W:=by
 have hl:=(List.getElem?_eq_some_iff.1 hxx).1
 rcases h.2 with⟨h1,_⟩ | ⟨g',cap',cur,h1,h2,h3,h4,h5,h6,h7⟩
 ·cases h1
 ·injection h1 with h1 hm hc
  injection h1 with h1
  injection h1 with h1
  subst h1 hc hm
  have hB:Blk W rb 57 cur:=h3
  refine hB.ldAt (i*22) (fun j v hv=> ?_) Tryz.underlying57 rfl (by kernel_rfl)
  have hj:j<22:=(Array.getElem?_eq_some_iff.1 hv).1
  rw[←hB.cell,h.cellAt _ (by omega),atsV_at hxx j hj]
  exact hv
theorem Place_z (s:Sp) (hs:SpOK s) (N g b n:Nat) (R:AR) (lv:Value) (rows:List (List (Nat×NodeA))) (w:World) (h:SpA w N g b n R lv rows):
  Calls Tryz.prog 147 #[.pointer (some ⟨g,0,none⟩),.agg (spC s)] w fun e w'=>Below w.heap.size w w'∧ ∃p:Int,e= .returned (.int .i64 p)∧(p= -1∨ ∃q:Nat,p=(q:Int)∧q+8≤n):=by
 obtain⟨W1,hW1⟩: ∃W1,W1=w.alloc (.cells (spC s) 133):=⟨_,rfl⟩
 have hb1:Below w.heap.size w W1:=by rw[hW1];exact ba (Below.refl _ _) _
 have k1:Blk W1 w.heap.size 133 (spC s):=by rw[hW1];exact Blk.new _ _ _
 have h1:=h.bel hb1
 have hbig:=h.ar.big
 obtain⟨B,hB⟩: ∃B,B=w.heap.size:=⟨_,rfl⟩
 rw[←hB] at k1
 have s0:W1.cell? ⟨B,0,none⟩=some (.int .i64 s.kind):=k1.cell 0
 have s1:W1.cell? ⟨B,1,none⟩=some (.int .i64 s.which):=k1.cell 1
 have s2:W1.cell? ⟨B,2,none⟩=some (.int .i64 s.n):=k1.cell 2
 have s3:W1.cell? ⟨B,3,none⟩=some (.int .i64 s.at'):=k1.cell 3
 have c0:W1.cell? ⟨g,0,none⟩=some (.slice (some ⟨b,0,none⟩) n n):=h1.ar.blk.cell 0
 have c1:W1.cell? ⟨g,1,none⟩=some (.int .i64 (R.slabs:Int)):=h1.ar.blk.cell 1
 have c7:W1.cell? ⟨g,7,none⟩=some lv:=h1.ar.blk.cell 7
 have HW1:=hid hW1
 have HB1:=hid hb1
 have H1:=hid h1
 have HS:=hid hs
 obtain⟨wo,hwo⟩: ∃wo,wo=n/8:=⟨_,rfl⟩
 have e8:(n:Int)/8=(wo:Int):=by omega
 have e8':Int.tdiv (n:Int) 8=(wo:Int):=by rw[hwo];rfl
 have ww:IntKind.i64.wrap (wo:Int)=(wo:Int):=IntWalk.i64_in _ (by constructor<;>omega)
 have HWO:=hid hwo
 clear hW1 hb1 k1 h1 h hs hwo
 go_enter Tryz.func147,Tryz.ntmps147
 go_upto_region 1 with fail
 rw[show _=W1 from HW1.out.symm,←hB]
 have HBB:=hid hB
 clear hB
 have hsl:=H1.out.sl
 have wo0: ¬(wo:Int)=0:=by have:=HWO.out;omega
 have wo1: ¬wo=0:=by omega
 by_cases k1:s.kind=1
 ·have b1:(s.kind==1)=true:=by simp[k1]
  obtain⟨r,hr,er⟩:=umod s.at' wo (by omega)
  obtain⟨q,hq⟩: ∃q,q=8*r:=⟨_,rfl⟩
  have wr:IntKind.i64.wrap (r:Int)=(r:Int):=IntWalk.i64_in _ (by have:=HWO.out;constructor<;>omega)
  have wq:IntKind.i64.wrap (8*(r:Int))=(q:Int):=by rw[IntWalk.i64_in _ (by have:=HWO.out;constructor<;>omega)];omega
  have HF:=hid (show q+8≤n by have:=HWO.out;omega)
  clear k1 s1 s2 c1 c7 hr hq hsl
  go_wp2
  go_ret
  exact⟨HB1.out,(q:Int),rfl,Or.inr ⟨q,rfl,HF.out⟩⟩
 have b1:(s.kind==1)=false:=by simp[k1]
 by_cases k2:s.kind=2
 ·have b2:(s.kind==2)=true:=by simp[k2]
  have hrl:=H1.out.rl
  have hrp:0<rows.length:=List.length_pos_iff.2 H1.out.rne
  obtain⟨r,hr,er⟩:=umod s.n rows.length hrp
  obtain⟨gl,cl,rb,rl,rc,row,rfl,hgl,hrow,ck,hrlen,hrl0,hrl1,hrb,hrA,hrin⟩:=H1.out.row hr
  obtain⟨L,hL⟩: ∃L,L=rows.length:=⟨_,rfl⟩
  rw[←hL] at c7 er hr hrp hrl
  obtain⟨r3,hr3,er3⟩:=umod s.which rl hrl0
  obtain⟨r4,hr4,er4⟩:=umod s.at' 21 (by omega)
  obtain⟨xx,hxx⟩: ∃xx,row[r3]?=some xx:=⟨_,List.getElem?_eq_getElem (by omega)⟩
  have hx:=hrin xx (List.mem_of_getElem? hxx)
  have wr:IntKind.i64.wrap (r:Int)=(r:Int):=IntWalk.i64_in _ (by constructor<;>omega)
  have wr3:IntKind.i64.wrap (r3:Int)=(r3:Int):=IntWalk.i64_in _ (by constructor<;>omega)
  have wr4:IntKind.i64.wrap (r4:Int)=(r4:Int):=IntWalk.i64_in _ (by constructor<;>omega)
  have uL:IntKind.u64.wrap (L:Int)=(L:Int):=IntWalk.u64_in _ (by constructor<;>omega)
  have url:IntKind.u64.wrap (rl:Int)=(rl:Int):=IntWalk.u64_in _ (by constructor<;>omega)
  have L0: ¬(L:Int)=0:=by omega
  have L1: ¬L=0:=by omega
  have rl0: ¬(rl:Int)=0:=by omega
  have rl1: ¬rl=0:=by omega
  have i0:(0:Int)≤(r:Int):=by omega
  have i1:(r:Int)< (L:Int):=by omega
  have i2:(0:Int)≤(r3:Int):=by omega
  have i3:(r3:Int)< (rl:Int):=by omega
  have er4':Int.tmod (IntKind.u64.wrap s.at') 21=(r4:Int):=er4
  have HR:=hid (⟨hr4,hrA,hxx,hx,hgl,hrb⟩:_∧_∧_∧_∧_∧_)
  clear k1 k2 c1 hsl hrl hrp hr hrow hrlen hrl0 hrl1 hrA hrin hL hr3 hr4 hxx hx hgl hrb er4
  go_upto_region 6 with fail
  go_quiet (fail)
  obtain⟨W2,hW2⟩: ∃x,x=W1.drewN nq:=⟨_,rfl⟩
  rw[←hW2]
  have hb2:Below W1.heap.size W1 W2:=by rw[hW2];exact⟨rfl,rfl,rfl,Nat.le_refl _,fun _ _=>rfl⟩
  have s1':W2.cell? ⟨B,1,none⟩=some (.int .i64 s.which):=by rw[hW2];exact s1
  have s3':W2.cell? ⟨B,3,none⟩=some (.int .i64 s.at'):=by rw[hW2];exact s3
  have hrA2:rowA W2 N (.slice (some ⟨rb,0,none⟩) rl rc) row:=(Only.of_below hb2 []).own HR.out.2.1 (by simp)
  have hld:=at_ld_at hrA2 HR.out.2.2.1
  have k3:Blk (W2.alloc (.cells #[.int .u64 0,.int .i64 0,.int .u64 0,.int .u64 0,.int .u64 0,.int .u64 0,.int .u64 0,.int .u64 0,.int .u64 0,.int .u64 0,.int .u64 0,.int .u64 0,.int .u64 0,.int .u64 0,.int .u64 0,.int .u64 0,.int .u64 0,.int .u64 0,.int .u64 0,.int .u64 0,.int .u64 0,.int .u64 0] 57)) W2.heap.size 57 (atC 0 zeroN):=Blk.new _ _ _
  obtain⟨w4,hst,hk4,ho4⟩:=at_st (a':=(xx.1:Int)) (n':=xx.2) k3
  have hb4:Below W2.heap.size W2 w4:=(ba (Below.refl _ _) _).trans (ho4.below (fun y hy=>by simp at hy;omega) (by simp))
  have x0:w4.cell? ⟨W2.heap.size,0,none⟩=some (.int .u64 (xx.1:Int)):=hk4.cell 0
  have s3b:w4.cell? ⟨B,3,none⟩=some (.int .i64 s.at'):=(hb4.cell (p:=⟨B,3,none⟩) (World.block_lt_of_cell? W2 _ s3')).trans s3'
  have HB4:=hid (bx (bx HB1.out hb2) hb4)
  clear s0 s1 s2 s3 c0 c7 ck hW2
  go_upto_region 9 with fail
  have hx:=HR.out.2.2.2.1
  have wx:IntKind.i64.wrap (xx.1:Int)=(xx.1:Int):=IntWalk.i64_in _ (by constructor<;>omega)
  have hr4:=HR.out.1
  by_cases h4:4<r4
  ·have d1:(4:Int)< (r4:Int):=by omega
   obtain⟨m,hm⟩: ∃m,r4=m+5:=⟨r4-5,by omega⟩
   obtain⟨q,hq⟩: ∃q,q=xx.1+64+8*m:=⟨_,rfl⟩
   have w1:IntKind.i64.wrap ((xx.1:Int)+64)=(xx.1:Int)+64:=IntWalk.i64_in _ (by constructor<;>omega)
   have w2:IntKind.i64.wrap ((r4:Int)-5)=(m:Int):=by rw[IntWalk.i64_in _ (by constructor<;>omega)];omega
   have w3:IntKind.i64.wrap (8*(m:Int))=8*(m:Int):=IntWalk.i64_in _ (by constructor<;>omega)
   have w5:IntKind.i64.wrap ((xx.1:Int)+64+8*(m:Int))=(q:Int):=by rw[IntWalk.i64_in _ (by constructor<;>omega)];omega
   have HF:=hid (show q+8≤n by omega)
   clear hq hm hx hr4
   go_wp2
   go_ret
   exact⟨HB4.out,(q:Int),rfl,Or.inr ⟨q,rfl,HF.out⟩⟩
  ·have d1: ¬(4:Int)< (r4:Int):=by omega
   obtain⟨q,hq⟩: ∃q,q=xx.1+8*r4:=⟨_,rfl⟩
   have w3:IntKind.i64.wrap (8*(r4:Int))=8*(r4:Int):=IntWalk.i64_in _ (by constructor<;>omega)
   have w5:IntKind.i64.wrap ((xx.1:Int)+8*(r4:Int))=(q:Int):=by rw[IntWalk.i64_in _ (by constructor<;>omega)];omega
   have HF:=hid (show q+8≤n by omega)
   clear hq hx hr4
   go_wp2
   go_ret
   exact⟨HB4.out,(q:Int),rfl,Or.inr ⟨q,rfl,HF.out⟩⟩
 have b2:(s.kind==2)=false:=by simp[k2]
 obtain⟨r,hr,er⟩:=umod s.which R.slabs (by omega)
 obtain⟨sl,hsle⟩: ∃sl,sl=R.slabs:=⟨_,rfl⟩
 rw[←hsle] at c1 er hr hsl
 have wr:IntKind.i64.wrap (r:Int)=(r:Int):=IntWalk.i64_in _ (by constructor<;>omega)
 have us:IntKind.u64.wrap (sl:Int)=(sl:Int):=IntWalk.u64_in _ (by constructor<;>omega)
 have sl0: ¬(sl:Int)=0:=by omega
 have sl1: ¬sl=0:=by omega
 obtain⟨q,hq⟩: ∃q,q=1024*(1+r):=⟨_,rfl⟩
 have w1:IntKind.i64.wrap (1+(r:Int))=1+(r:Int):=IntWalk.i64_in _ (by constructor<;>omega)
 have w2:IntKind.i64.wrap (1024*(1+(r:Int)))=(q:Int):=by rw[IntWalk.i64_in _ (by constructor<;>omega)];omega
 by_cases k3:s.kind=3
 ·have b3:(s.kind==3)=true:=by simp[k3]
  have HF:=hid (show q+8≤n by omega)
  clear k1 k2 k3 hr hsl hsle hq s2 s3 c7
  go_upto_region 13 with fail
  go_quiet (fail)
  go_wp2
  go_ret
  exact⟨bx HB1.out ⟨rfl,rfl,rfl,Nat.le_refl _,fun _ _=>rfl⟩,(q:Int),rfl,Or.inr ⟨q,rfl,HF.out⟩⟩
 have b3:(s.kind==3)=false:=by simp[k3]
 by_cases k4:s.kind=4
 ·have b4:(s.kind==4)=true:=by simp[k4]
  obtain⟨q2,hq2⟩: ∃q2,q2=q+8:=⟨_,rfl⟩
  have w3:IntKind.i64.wrap ((q:Int)+8)=(q2:Int):=by rw[IntWalk.i64_in _ (by constructor<;>omega)];omega
  have HF:=hid (show q2+8≤n by omega)
  clear k1 k2 k3 k4 hr hsl hsle hq hq2 s2 s3 c7
  go_upto_region 15 with fail
  go_quiet (fail)
  go_wp2
  go_ret
  exact⟨bx HB1.out ⟨rfl,rfl,rfl,Nat.le_refl _,fun _ _=>rfl⟩,(q2:Int),rfl,Or.inr ⟨q2,rfl,HF.out⟩⟩
 ·have b4:(s.kind==4)=false:=by simp[k4]
  clear k1 k2 k3 k4 hr hsl hsle hq s1 s2 s3 c7 c1
  go_wp2
  go_ret
  exact⟨HB1.out,-1,rfl,Or.inl rfl⟩
end
section
theorem spLoadAt (v:Value):Instr.loadAt 133 v=ldM 133 v:=rfl
attribute [local go_sem ↓ high] spLoadAt
attribute [local go_sem] ldM_run stM_run
theorem sp_ld {w:World} {b:Nat} {s:Sp} (h:Blk w b 133 (spC s)):ldR Tryz.prog 133 (.pointer (some ⟨b,0,none⟩)) w= .ok (.agg (spC s)) w:=h.ld Tryz.underlying133 rfl (by kernel_rfl)
theorem u64nat (A:Int): ∃X:Nat,X<18446744073709551616∧IntKind.u64.wrap A=(X:Int):=by
 rw[IntKind.wrap_u64]
 exact⟨(A % 18446744073709551616).toNat,by omega,by omega⟩
theorem tmod_nat (a m:Nat):Int.tmod (a:Int) (m:Int)=((a % m:Nat):Int):=rfl
theorem SpA.set {W W':World} {N g b n:Nat} {R:AR} {lv:Value} {rows:List (List (Nat×NodeA))} (h:SpA W N g b n R lv rows) {q X:Nat} (hq:q+8≤n) (hk:Blk W' b 5 (byC (putW R.bs q X))) (ho:Only [b] W W'):SpA W' N g b n (R.put q X) lv rows:=
 ⟨h.ar.put hq hk ho,h.lvs.only ho (fun y hy=>by rw[List.mem_singleton.1 hy];exact Or.inr ⟨_,_,h.ar.by',by decide,by decide⟩),h.sl,h.rne,h.rl,h.rin⟩
theorem row_at {W:World} {N rb m c:Nat} {row:List (Nat×NodeA)} (h:rowA W N (.slice (some ⟨rb,0,none⟩) m c) row) {i:Nat} {xx:Nat×NodeA} (hxx:row[i]?=some xx):W.cell? ⟨rb,i*22,none⟩=some (.int .u64 (xx.1:Int)):=by
 have hl:=(List.getElem?_eq_some_iff.1 hxx).1
 rcases h.2 with⟨h1,_⟩ | ⟨g',cap',cur,h1,_⟩
 ·cases h1
 ·have h2:=h
  injection h1 with h1 hm hc
  subst hm hc
  exact(h2.cellAt (i*22) (by omega)).trans (atsV_at hxx 0 (by omega))
theorem Spoil_z (s:Sp) (hs:SpOK s) (N g b n:Nat) (R:AR) (lv:Value) (rows:List (List (Nat×NodeA))) (w:World) (hN:N≤w.heap.size) (hbN:N≤b) (h:SpA w N g b n R lv rows):
  Calls Tryz.prog 62 #[.pointer (some ⟨g,0,none⟩),.agg (spC s)] w fun e w'=>e= .returned (.tuple #[])∧Below N w w'∧ ∃R',SpA w' N g b n R' lv rows:=by
 obtain⟨W1,hW1⟩: ∃W1,W1=w.alloc (.cells (spC s) 133):=⟨_,rfl⟩
 have hb1:Below w.heap.size w W1:=by rw[hW1];exact ba (Below.refl _ _) _
 have k1:Blk W1 w.heap.size 133 (spC s):=by rw[hW1];exact Blk.new _ _ _
 have h1:=h.bel hb1
 have hbig:=h.ar.big
 obtain⟨B,hB⟩: ∃B,B=w.heap.size:=⟨_,rfl⟩
 rw[←hB] at k1
 have hld:=sp_ld k1
 have PL:=hid (Place_z s hs N g b n R lv rows W1 h1)
 have HW1:=hid hW1
 have HB1:=hid (hb1.mono hN)
 have H1:=hid h1
 have HS:=hid hs
 have HK1:=hid k1
 have HNN:=hid (⟨hN,hbN⟩:_∧_)
 clear hW1 hb1 k1 h1 h hs hN hbN
 go_enter Tryz.func62,Tryz.ntmps62
 go_upto_region 1 with fail
 rw[show _=W1 from HW1.out.symm,←hB]
 have HBB:=hid hB
 clear hB
 go_wp2_with fail
 refine PL.out.mono ?_
 rintro e W2 ⟨hb2,p,rfl,hp⟩
 have H2:=hid (H1.out.bel hb2)
 have HB2:Hid (Below N w W2):=hid (HB1.out.trans (hb2.mono (by have:=HB1.out.size;have:=HNN.out.1;omega)))
 have hk2:=HK1.out.bel hb2
 have s1:W2.cell? ⟨B,1,none⟩=some (.int .i64 s.which):=hk2.cell 1
 have s2:W2.cell? ⟨B,2,none⟩=some (.int .i64 s.n):=hk2.cell 2
 have s4:W2.cell? ⟨B,4,none⟩=some (.int .i64 s.how):=hk2.cell 4
 have s5:W2.cell? ⟨B,5,none⟩=some (.int .u64 s.w):=hk2.cell 5
 clear hb2 hk2 hld
 rcases hp with rfl | ⟨q,rfl,hq⟩
 ·clear s1 s2 s4 s5
  have m1:(-1:Int)<0:=by decide
  go_wp2
  refine bodyPost_ret (v:= .tuple #[]) (by simp[results,Tryz.results62,go_sem]) rfl ?_
  exact⟨rfl,HB2.out,R,H2.out⟩
 ·have q0: ¬(q:Int)<0:=by omega
  have c0:W2.cell? ⟨g,0,none⟩=some (.slice (some ⟨b,0,none⟩) n n):=H2.out.ar.blk.cell 0
  have c7:W2.cell? ⟨g,7,none⟩=some lv:=H2.out.ar.blk.cell 7
  have hln:=H2.out.ar.ln
  have TK:=Take_r (some ⟨b,0,none⟩) n R.bs q (by rw[←hln];exact hq) (by rw[←hln];omega) W2 H2.out.ar.bytes
  rw[←hln] at TK
  have hwb:=wdN_bounds H2.out.ar.byt q
  obtain⟨x0,hx0⟩: ∃x0:Nat,wdN R.bs q=(x0:Int):=⟨(wdN R.bs q).toNat,by omega⟩
  rw[show leW ((R.bs.drop q).take 8)=(x0:Int) from hx0] at TK
  have TK:=hid TK
  have hx0l:x0<18446744073709551616:=by omega
  have hrl:=H2.out.rl
  have hrp:0<rows.length:=List.length_pos_iff.2 H2.out.rne
  obtain⟨r,hr,er⟩:=umod s.n rows.length hrp
  obtain⟨gl,cl,rb,rl,rc,row,hlv,hgl,hrow,ck,hrlen,hrl0,hrl1,hrb,hrA,hrin⟩:=H2.out.row hr
  obtain⟨L,hL⟩: ∃L,L=rows.length:=⟨_,rfl⟩
  rw[←hL] at hlv er hr hrp hrl
  rw[hlv] at c7
  obtain⟨r3,hr3,er3⟩:=umod s.which rl hrl0
  have wr:IntKind.i64.wrap (r:Int)=(r:Int):=IntWalk.i64_in _ (by constructor<;>omega)
  have wr3:IntKind.i64.wrap (r3:Int)=(r3:Int):=IntWalk.i64_in _ (by constructor<;>omega)
  have uL:IntKind.u64.wrap (L:Int)=(L:Int):=IntWalk.u64_in _ (by constructor<;>omega)
  have url:IntKind.u64.wrap (rl:Int)=(rl:Int):=IntWalk.u64_in _ (by constructor<;>omega)
  have L0: ¬(L:Int)=0:=by omega
  have L1: ¬L=0:=by omega
  have rl0: ¬(rl:Int)=0:=by omega
  have rl1: ¬rl=0:=by omega
  have i0:(0:Int)≤(r:Int):=by omega
  have i1:(r:Int)< (L:Int):=by omega
  have HR:=hid (⟨hrA,hrin,hrlen,hrl0,hr3,hrl1,hq,hln,hx0l⟩:_∧_∧rl=row.length∧0<rl∧r3<rl∧rl≤1000∧q+8≤n∧n=R.bs.length∧x0<18446744073709551616)
  clear hwb hx0 hx0l hrl hrp hr hlv hgl hrow hrlen hrl0 hrl1 hrb hrA hrin hL hr3 hq hln
  go_wp2_with fail
  refine TK.out.mono ?_
  rintro e w3 ⟨rfl,rfl⟩
  go_upto_region 4 with fail
  go_quiet (fail)
  obtain⟨W3,hW3⟩: ∃x,x=W2.drewN nq:=⟨_,rfl⟩
  rw[←hW3]
  have hb3:Below W2.heap.size W2 W3:=by rw[hW3];exact⟨rfl,rfl,rfl,Nat.le_refl _,fun _ _=>rfl⟩
  have t1:W3.cell? ⟨B,1,none⟩=some (.int .i64 s.which):=by rw[hW3];exact s1
  have t4:W3.cell? ⟨B,4,none⟩=some (.int .i64 s.how):=by rw[hW3];exact s4
  have t5:W3.cell? ⟨B,5,none⟩=some (.int .u64 s.w):=by rw[hW3];exact s5
  have c0:W3.cell? ⟨g,0,none⟩=some (.slice (some ⟨b,0,none⟩) n n):=by rw[hW3];exact c0
  have H3:=hid (H2.out.bel hb3)
  have HB3:Hid (Below N w W3):=hid (HB2.out.trans (hb3.mono (by have:=HB2.out.size;have:=HNN.out.1;omega)))
  have hrA3:rowA W3 N (.slice (some ⟨rb,0,none⟩) rl rc) row:=(Only.of_below hb3 []).own HR.out.1 (by simp)
  have HRA:=hid hrA3
  clear s1 s2 s4 s5 c7 ck hW3 hb3 hrA3
  go_upto_region 6 with fail
  have k0:(0:Int)≤(r3:Int):=by omega
  have kl:(r3:Int)< (rl:Int):=by have:=HR.out.2.2.2.2.1;omega
  have ST:=hid (fun X (hX:X<18446744073709551616)=>SetW_z b n n R.bs q X hX HR.out.2.2.2.2.2.2.2.1 (by rw[←HR.out.2.2.2.2.2.2.2.1];exact HR.out.2.2.2.2.2.2.1) (by rw[←HR.out.2.2.2.2.2.2.2.1];exact hbig) W3 H3.out.ar.by')
  have ROW:=hid (fun j (hj:j<rl)=>(by
   obtain⟨xx,hxx⟩: ∃xx,row[j]?=some xx:=⟨_,List.getElem?_eq_getElem (by have:=HR.out.2.2.1;omega)⟩
   have:=HR.out.2.1 xx (List.mem_of_getElem? hxx)
   exact⟨xx.1,by omega,row_at HRA.out hxx⟩: ∃X:Nat,X<18446744073709551616∧W3.cell? ⟨rb,j*22,none⟩=some (.int .u64 (X:Int))))
  by_cases h5:s.how=5
  ·have b5:(s.how==5)=true:=by simp[h5]
   clear h5
   obtain⟨X,hX,eX⟩:=u64nat ((x0:Int)-1)
   have SX:=hid (ST.out X hX)
   go_wp2_with fail
   refine SX.out.mono ?_
   rintro e w9 ⟨rfl,hk9,ho9⟩
   have HF:Hid (Below N w w9∧ ∃R',SpA w9 N g b n R' lv rows):=hid ⟨HB3.out.trans (ho9.below (fun y hy=>by rw[List.mem_singleton.1 hy];exact HNN.out.2) (by have:=HB3.out.size;have:=HNN.out.1;omega)),_,H3.out.set HR.out.2.2.2.2.2.2.1 hk9 ho9⟩
   clear hk9 ho9
   go_wp2
   refine bodyPost_end (v:= .tuple #[]) (by simp[results,Tryz.results62,go_sem]) rfl ?_
   exact⟨rfl,HF.out⟩
  have b5:(s.how==5)=false:=by simp[h5]
  by_cases h6:s.how=6
  ·have b6:(s.how==6)=true:=by simp[h6]
   clear h6
   obtain⟨X,hX,eX⟩:=u64nat ((x0:Int)+1)
   have SX:=hid (ST.out X hX)
   go_wp2_with fail
   refine SX.out.mono ?_
   rintro e w9 ⟨rfl,hk9,ho9⟩
   have HF:Hid (Below N w w9∧ ∃R',SpA w9 N g b n R' lv rows):=hid ⟨HB3.out.trans (ho9.below (fun y hy=>by rw[List.mem_singleton.1 hy];exact HNN.out.2) (by have:=HB3.out.size;have:=HNN.out.1;omega)),_,H3.out.set HR.out.2.2.2.2.2.2.1 hk9 ho9⟩
   clear hk9 ho9
   go_wp2
   refine bodyPost_end (v:= .tuple #[]) (by simp[results,Tryz.results62,go_sem]) rfl ?_
   exact⟨rfl,HF.out⟩
  have b6:(s.how==6)=false:=by simp[h6]
  by_cases h7:s.how=7
  ·have b7:(s.how==7)=true:=by simp[h7]
   clear h7
   obtain⟨X,hX,eX⟩:=ROW.out ((r3+1)% rl) (Nat.mod_lt _ HR.out.2.2.2.1)
   have wa:IntKind.i64.wrap ((r3:Int)+1)=((r3+1:Nat):Int):=by have:=HR.out;rw[IntWalk.i64_in _ (by constructor<;>omega)];omega
   obtain⟨m,hm⟩: ∃m,m=(r3+1)% rl:=⟨_,rfl⟩
   obtain⟨r8,hr8⟩: ∃r8,r8=r3+1:=⟨_,rfl⟩
   have tm:Int.tmod (r8:Int) (rl:Int)=(m:Int):=by rw[hm,←hr8];rfl
   rw[←hr8] at wa
   rw[←hm] at eX
   have m0:(0:Int)≤(m:Int):=by omega
   have m1:(m:Int)< (rl:Int):=by have:=Nat.mod_lt (r3+1) HR.out.2.2.2.1;omega
   have wm:IntKind.i64.wrap (m:Int)=(m:Int):=IntWalk.i64_in _ (by have:=HR.out;constructor<;>omega)
   clear hm hr8
   have SX:=hid (ST.out X hX)
   go_wp2_with fail
   refine SX.out.mono ?_
   rintro e w9 ⟨rfl,hk9,ho9⟩
   have HF:Hid (Below N w w9∧ ∃R',SpA w9 N g b n R' lv rows):=hid ⟨HB3.out.trans (ho9.below (fun y hy=>by rw[List.mem_singleton.1 hy];exact HNN.out.2) (by have:=HB3.out.size;have:=HNN.out.1;omega)),_,H3.out.set HR.out.2.2.2.2.2.2.1 hk9 ho9⟩
   clear hk9 ho9
   go_wp2
   refine bodyPost_end (v:= .tuple #[]) (by simp[results,Tryz.results62,go_sem]) rfl ?_
   exact⟨rfl,HF.out⟩
  have b7:(s.how==7)=false:=by simp[h7]
  by_cases h8:s.how=8
  ·have b8:(s.how==8)=true:=by simp[h8]
   clear h8
   obtain⟨X,hX,eX⟩:=ROW.out ((r3+rl-1)% rl) (Nat.mod_lt _ HR.out.2.2.2.1)
   obtain⟨m,hm⟩: ∃m,m=(r3+rl-1)% rl:=⟨_,rfl⟩
   obtain⟨r8,hr8⟩: ∃r8,r8=r3+rl-1:=⟨_,rfl⟩
   have wa:IntKind.i64.wrap ((r3:Int)+(rl:Int))=(r3:Int)+(rl:Int):=by have:=HR.out;rw[IntWalk.i64_in _ (by constructor<;>omega)]
   have wb:IntKind.i64.wrap ((r3:Int)+(rl:Int)-1)=(r8:Int):=by have:=HR.out;rw[IntWalk.i64_in _ (by constructor<;>omega)];omega
   have tm:Int.tmod (r8:Int) (rl:Int)=(m:Int):=by rw[hm,←hr8];rfl
   rw[←hm] at eX
   have m0:(0:Int)≤(m:Int):=by omega
   have m1:(m:Int)< (rl:Int):=by have:=Nat.mod_lt (r3+rl-1) HR.out.2.2.2.1;omega
   have wm:IntKind.i64.wrap (m:Int)=(m:Int):=IntWalk.i64_in _ (by have:=HR.out;constructor<;>omega)
   clear hm hr8
   have SX:=hid (ST.out X hX)
   go_wp2_with fail
   refine SX.out.mono ?_
   rintro e w9 ⟨rfl,hk9,ho9⟩
   have HF:Hid (Below N w w9∧ ∃R',SpA w9 N g b n R' lv rows):=hid ⟨HB3.out.trans (ho9.below (fun y hy=>by rw[List.mem_singleton.1 hy];exact HNN.out.2) (by have:=HB3.out.size;have:=HNN.out.1;omega)),_,H3.out.set HR.out.2.2.2.2.2.2.1 hk9 ho9⟩
   clear hk9 ho9
   go_wp2
   refine bodyPost_end (v:= .tuple #[]) (by simp[results,Tryz.results62,go_sem]) rfl ?_
   exact⟨rfl,HF.out⟩
  have b8:(s.how==8)=false:=by simp[h8]
  by_cases h9:s.how=9
  ·have b9:(s.how==9)=true:=by simp[h9]
   clear h9
   have hn6:=hbig
   have w16:IntKind.i64.wrap ((q:Int)+16)=(q:Int)+16:=by have:=HR.out;rw[IntWalk.i64_in _ (by constructor<;>omega)]
   by_cases h16:q+16≤n
   ·have l16:(q:Int)+16≤(n:Int):=by omega
    obtain⟨q8,hq8⟩: ∃q8,q8=q+8:=⟨_,rfl⟩
    have w8:IntKind.i64.wrap ((q:Int)+8)=(q8:Int):=by have:=HR.out;rw[IntWalk.i64_in _ (by constructor<;>omega)];omega
    have hln:=HR.out.2.2.2.2.2.2.2.1
    have TK2:=Take_r (some ⟨b,0,none⟩) n R.bs q8 (by rw[←hln];omega) (by rw[←hln];omega) W3 H3.out.ar.bytes
    rw[←hln] at TK2
    have hwb:=wdN_bounds H3.out.ar.byt q8
    obtain⟨X,hX0⟩: ∃X:Nat,wdN R.bs q8=(X:Int):=⟨(wdN R.bs q8).toNat,by omega⟩
    rw[show leW ((R.bs.drop q8).take 8)=(X:Int) from hX0] at TK2
    have TK2:=hid TK2
    have hX:X<18446744073709551616:=by omega
    clear hq8 hln hwb hX0
    go_wp2_with fail
    refine TK2.out.mono ?_
    rintro e w3 ⟨rfl,rfl⟩
    have SX:=hid (ST.out X hX)
    go_wp2_with fail
    refine SX.out.mono ?_
    rintro e w9 ⟨rfl,hk9,ho9⟩
    have HF:Hid (Below N w w9∧ ∃R',SpA w9 N g b n R' lv rows):=hid ⟨HB3.out.trans (ho9.below (fun y hy=>by rw[List.mem_singleton.1 hy];exact HNN.out.2) (by have:=HB3.out.size;have:=HNN.out.1;omega)),_,H3.out.set HR.out.2.2.2.2.2.2.1 hk9 ho9⟩
    clear hk9 ho9
    go_wp2
    refine bodyPost_end (v:= .tuple #[]) (by simp[results,Tryz.results62,go_sem]) rfl ?_
    exact⟨rfl,HF.out⟩
   ·have l16: ¬(q:Int)+16≤(n:Int):=by omega
    clear h16
    have SX:=hid (ST.out x0 HR.out.2.2.2.2.2.2.2.2)
    go_wp2_with fail
    refine SX.out.mono ?_
    rintro e w9 ⟨rfl,hk9,ho9⟩
    have HF:Hid (Below N w w9∧ ∃R',SpA w9 N g b n R' lv rows):=hid ⟨HB3.out.trans (ho9.below (fun y hy=>by rw[List.mem_singleton.1 hy];exact HNN.out.2) (by have:=HB3.out.size;have:=HNN.out.1;omega)),_,H3.out.set HR.out.2.2.2.2.2.2.1 hk9 ho9⟩
    clear hk9 ho9
    go_wp2
    refine bodyPost_end (v:= .tuple #[]) (by simp[results,Tryz.results62,go_sem]) rfl ?_
    exact⟨rfl,HF.out⟩
  have b9:(s.how==9)=false:=by simp[h9]
  by_cases h10:s.how=10
  ·have b10:(s.how==10)=true:=by simp[h10]
   clear h10
   obtain⟨X,hX,eX⟩:=ROW.out r3 HR.out.2.2.2.2.1
   have SX:=hid (ST.out X hX)
   go_wp2_with fail
   refine SX.out.mono ?_
   rintro e w9 ⟨rfl,hk9,ho9⟩
   have HF:Hid (Below N w w9∧ ∃R',SpA w9 N g b n R' lv rows):=hid ⟨HB3.out.trans (ho9.below (fun y hy=>by rw[List.mem_singleton.1 hy];exact HNN.out.2) (by have:=HB3.out.size;have:=HNN.out.1;omega)),_,H3.out.set HR.out.2.2.2.2.2.2.1 hk9 ho9⟩
   clear hk9 ho9
   go_wp2
   refine bodyPost_end (v:= .tuple #[]) (by simp[results,Tryz.results62,go_sem]) rfl ?_
   exact⟨rfl,HF.out⟩
  have b10:(s.how==10)=false:=by simp[h10]
  obtain⟨X,hX⟩: ∃X:Nat,s.w=(X:Int):=⟨s.w.toNat,by have:=HS.out.w.1;omega⟩
  have hXl:X<18446744073709551616:=by have:=HS.out.w.2;omega
  rw[hX] at t5
  clear h5 h6 h7 h8 h9 h10 hX
  have SX:=hid (ST.out X hXl)
  go_wp2_with fail
  refine SX.out.mono ?_
  rintro e w9 ⟨rfl,hk9,ho9⟩
  have HF:Hid (Below N w w9∧ ∃R',SpA w9 N g b n R' lv rows):=hid ⟨HB3.out.trans (ho9.below (fun y hy=>by rw[List.mem_singleton.1 hy];exact HNN.out.2) (by have:=HB3.out.size;have:=HNN.out.1;omega)),_,H3.out.set HR.out.2.2.2.2.2.2.1 hk9 ho9⟩
  clear hk9 ho9
  go_wp2
  refine bodyPost_end (v:= .tuple #[]) (by simp[results,Tryz.results62,go_sem]) rfl ?_
  exact⟨rfl,HF.out⟩
end
end Go.Proofs.YtibiekfjbibpbaaGreat
