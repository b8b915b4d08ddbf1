import Derived.Test.YtjmaicckkkdjpaaGreatF53
import Derived.Test.YtjmaicckkkdjpaaGreatF12
import Derived.Test.YtjmaicckkkdjpaaGreatF25
set_option maxRecDepth 100000
set_option maxHeartbeats 1000000
set_option linter.unusedVariables false
set_option linter.unusedSimpArgs false
/- A walk, a value that is read, a get, plainly: what a step does. -/
namespace Go.Proofs.YtjmaicckkkdjpaaGreat
open Go.RowKit
def lastN (n:NodeA) (q:Int):Int:=match((placesN n).filter fun i=>decide (n.k i≤q)).getLast? with
 | some i=>(i:Int)
 | none=> -1
def childN (n:NodeA) (q:Int):Int:=if lastN n q<0 then n.fi else n.p (lastN n q).toNat
theorem child_in {n:NodeA} (q:Int):childN n q=n.fi∨ ∃e∈validN n,childN n q=e.2∧e.1≤q:=by
 unfold childN lastN
 cases h:((placesN n).filter fun i=>decide (n.k i≤q)).getLast? with
 | none=>left;rw[if_pos (by simp)]
 | some i=>
  right
  have hm:=List.mem_of_getLast? h
  obtain⟨h1,h2⟩:=List.mem_filter.1 hm
  simp only[]
  rw[if_neg (by omega)]
  refine⟨(n.k i,n.p i),?_,by simp,by simpa using h2⟩
  unfold validN
  exact List.mem_map.2 ⟨i,h1,rfl⟩
structure LtP where
 client:Int
 lines:List Int
 over:Bool
def LtP.next (x:LtP):LtP:=if x.over=true then x else match x.lines with
 | _::r=>{ x with lines:=r }
 | []=>{ x with over:=true }
inductive WkU where
 | root
 | snap (s:SnP)
 | hop (l:LtP)
structure WkP where
 client:Int
 key:Int
 level:Int
 pa:Int
 pn:NodeA
 ph:Int
 phas:Bool
 low:Int
 dest:Int
 u:WkU
 over:Bool
 e:Int
def wkNew (client key level:Int):WkP:=⟨client,key,level,0,zeroN,0,false,0,0,.root,false,0⟩
def WkP.come (x:WkP) (a:Int):WkP:={ x with pa:=a,pn:=zeroN,ph:=0,phas:=false,u:= .snap (snNew a) }
def WkP.look (x:WkP):WkP:=
 if x.phas=true∧x.ph≤x.key then{ x with u:= .hop ⟨x.client,[x.pa],false⟩ }
 else if x.level<x.pn.lv then x.come (childN x.pn x.key)
 else if x.pn.lv<x.level then{ x with over:=true,e:=5 }
 else{ x with over:=true }
def WkP.land (x:WkP) (s:SnP):WkP:={ x with pn:=s.nd,ph:=if s.has=true then s.high else 0,phas:=s.has,u:= .snap s }
def WkP.hopped (x:WkP):WkP:=({ x with low:=if x.pn.lv=x.level then x.ph else x.low,dest:=if x.pn.lv=x.level then x.pn.nx else x.dest }:WkP).come x.pn.nx
def WkP.next (v:List Int) (x:WkP):WkP:=
 if x.over=true then x else match x.u with
 | .root=>x.come (wdV v 16)
 | .snap s=>if(s.next v).over=true then(x.land (s.next v)).look else{ x with u:= .snap (s.next v) }
 | .hop l=>if l.next.over=true then({ x with u:= .hop l.next }:WkP).hopped else{ x with u:= .hop l.next }
structure RdP where
 base:Int
 l:List Nat
 s:ByteArray
 done:Bool
 bad:Int
def rdNew (base:Int):RdP:=⟨base,[],{ data:= #[] },false,0⟩
def txtE (n:Nat) (ns:List Nat):ByteArray×Int:=if cleanC ns n then(strOfNums ((bytesN ns).take n),0) else({ data:= #[] },11)
theorem textV_eq (n:Nat) (ns:List Nat):textV n ns= .tuple #[.string (txtE n ns).1,.int .i64 (txtE n ns).2]:=by
 unfold textV txtE
 cases cleanC ns n<;>rfl
def RdP.adr (x:RdP):Int:=x.base+8*(x.l.length:Int)
def RdP.got (x:RdP) (w:Nat):RdP:=
 if 120< (x.l++[w]).headD 0 then{ x with l:=x.l++[w],done:=true,bad:=11 }
 else if x.l.length+1<wordsV ((x.l++[w]).headD 0) then{ x with l:=x.l++[w] }
 else{ x with l:=x.l++[w],s:=(txtE ((x.l++[w]).headD 0) (x.l++[w]).tail).1,done:=true,bad:=(txtE ((x.l++[w]).headD 0) (x.l++[w]).tail).2 }
def RdP.next (v:List Int) (x:RdP):RdP:=if x.done=true then x else x.got (wdV v x.adr).toNat
structure StP where
 at':Int
 nx:Int
 ct:Int
 k:Int
 same:Bool
 over:Bool
def stNew (at':Int) (n:NodeA):StP:=⟨at',n.nx,n.ct,2,true,false⟩
def StP.adr (x:StP):Int:=x.at'+8*x.k
def StP.next (v:List Int) (x:StP):StP:=
 if x.over=true then x else{ x with same:=x.same&&decide (wdV v x.adr=if x.k=3 then x.ct else x.nx),over:=decide (x.k=3),k:=3 }
inductive GtU where
 | walk (x:WkP)
 | read (x:RdP)
 | still (x:StP)
 | last (l:LtP) (rc:Int) (rv:ByteArray)
structure GtP where
 client:Int
 key:Int
 u:GtU
 tries:Nat
 at':Int
 leaf:NodeA
 v:ByteArray
 why:Int
 done:Bool
 rc:Int
 rv:ByteArray
def gtNew (client key:Int):GtP:=⟨client,key,.walk (wkNew client key 0),0,0,zeroN,{ data:= #[] },0,false,0,{ data:= #[] }⟩
def linesL (a:Int):List Int:=[a,a+64,a+128]
end Go.Proofs.YtjmaicckkkdjpaaGreat
/- A snapshot's node and bound; whether a node is as it was; lines that are made to last. -/
namespace Go.Proofs.YtjmaicckkkdjpaaGreat
open Go.RowKit
attribute [local go_sem ↓ high] nodeLoadAt nodeLoadVar nodeStoreAt
attribute [local go_sem] ldM_run lvM_run stM_run Oper.semAt_some run_store_fnG neFnE neFnEG
theorem nodeC_turn (n0 n:NodeA):setL (nodeC n0) 0 (nodeC n).toList=nodeC n:=by kernel_rfl
theorem node_stA {w:World} {b:Nat} {n0:NodeA} (h:Blk w b 77 (nodeC n0)) (n:NodeA): ∃W',stR Tryz.prog 77 (.pointer (some ⟨b,0,none⟩)) (.agg (nodeC n)) w= .ok () W'∧Blk W' b 77 (nodeC n)∧Only [b] w W':=
 ⟨_,Blk.stAt h 0 (by show 0+21≤21;omega) (by kernel_rfl) (by kernel_rfl),by have:=Blk.setCells (nodeC n).toList 0 h;rw[nodeC_turn] at this;exact this,Only.setCellsM b _ 0 w⟩
theorem SNode_s (m s:Nat) (x:SnP) (hov:x.over=true) (he:x.e=0) (w:World) (hs:SnIs w m s x):
  Calls Tryz.prog 188 #[ptrV s] w fun e w'=>e= .returned (.tuple #[.agg (nodeC x.nd),.int .i64 0])∧Below w.heap.size w w':=by
 obtain⟨W1,hW1⟩: ∃W1,W1=w.alloc (.cells #[.int .i64 0,.int .u64 0,.int .u64 0,.int .u64 0,.int .u64 0,.int .u64 0,.int .u64 0,.int .u64 0,.int .u64 0,.int .u64 0,.int .u64 0,.int .u64 0,.int .u64 0,.int .u64 0,.int .u64 0,.int .u64 0,.int .u64 0,.int .u64 0,.int .u64 0,.int .u64 0,.int .u64 0] 77):=⟨_,rfl⟩
 have hb1:Below w.heap.size w W1:=by rw[hW1];exact ba (Below.refl _ _) _
 have k1:Blk W1 w.heap.size 77 (nodeC zeroN):=by rw[hW1];exact Blk.new w 77 (nodeC zeroN)
 have h1:SnIs W1 m s x:=hs.bel hb1
 have c8:W1.cell? ⟨s,54,none⟩=some (fnV (snFn x.f) s):=h1.cell 54
 have c9:W1.cell? ⟨s,55,none⟩=some (.bool true):=by rw[←hov];exact h1.cell 55
 have c10:W1.cell? ⟨s,56,none⟩=some (.int .i64 0):=by rw[←he];exact h1.cell 56
 have ldn:=SnV.ldn h1
 obtain⟨W2,hst,k2,o2⟩:=node_stA k1 x.nd
 have hlv:=node_lv k2
 have HB:=hid (hb1.trans (o2.below (fun y hy=>by simp at hy;omega) hb1.size))
 have HW:=hid hW1
 clear hW1 hb1 k1 h1 hs k2 o2
 go_enter Tryz.func188,Tryz.ntmps188
 go_upto_region 1 with fail
 rw[show _=W1 from HW.out.symm]
 go_wp2_with fail
 refine bodyPost_ret (v:= .tuple #[.agg (nodeC x.nd),.int .i64 0]) (results_cellv_tmp rfl _ _ _ _ _ rfl rfl hlv) rfl ?_
 exact⟨rfl,HB.out⟩
theorem SHigh_s (m s:Nat) (x:SnP) (hov:x.over=true) (he:x.e=0) (w:World) (hs:SnIs w m s x):
  Calls Tryz.prog 189 #[ptrV s] w fun e w'=>e= .returned (.tuple #[.int .u64 (if x.has=true then x.high else 0),.bool x.has])∧Below w.heap.size w w':=by
 have NZ:=hid (SNode_s m s x hov he w hs)
 have HS:=hid hs
 clear hs
 have HD:Hid (∀W,Below w.heap.size w W→ ∃W2,stR Tryz.prog 77 (.pointer (some ⟨W.heap.size,0,none⟩)) (.agg (nodeC x.nd)) (W.alloc (.cells #[.int .i64 0,.int .u64 0,.int .u64 0,.int .u64 0,.int .u64 0,.int .u64 0,.int .u64 0,.int .u64 0,.int .u64 0,.int .u64 0,.int .u64 0,.int .u64 0,.int .u64 0,.int .u64 0,.int .u64 0,.int .u64 0,.int .u64 0,.int .u64 0,.int .u64 0,.int .u64 0,.int .u64 0] 77))= .ok () W2∧Below w.heap.size w W2):=by
  intro W hb
  have k1:Blk (W.alloc (.cells #[.int .i64 0,.int .u64 0,.int .u64 0,.int .u64 0,.int .u64 0,.int .u64 0,.int .u64 0,.int .u64 0,.int .u64 0,.int .u64 0,.int .u64 0,.int .u64 0,.int .u64 0,.int .u64 0,.int .u64 0,.int .u64 0,.int .u64 0,.int .u64 0,.int .u64 0,.int .u64 0,.int .u64 0] 77)) W.heap.size 77 (nodeC zeroN):=Blk.new W 77 (nodeC zeroN)
  obtain⟨W2,hst,k2,o2⟩:=node_stA k1 x.nd
  exact⟨W2,hst,(ba hb _).trans (o2.below (fun y hy=>by simp at hy;have:=hb.size;omega) (by rw[World.size_alloc];have:=hb.size;omega))⟩
 cases hh:x.has with
 | true=>
  go_enter Tryz.func189,Tryz.ntmps189
  go_wp2_with fail
  refine NZ.out.mono ?_
  rintro e w1 ⟨rfl,hb1⟩
  obtain⟨W2,hst,hb2⟩:=HD.out w1 hb1
  have h2:SnIs W2 m s x:=HS.out.bel hb2
  have c7:W2.cell? ⟨s,53,none⟩=some (.bool true):=by rw[←hh];exact h2.cell 53
  have c6:W2.cell? ⟨s,52,none⟩=some (.int .u64 x.high):=h2.cell 52
  have HB:=hid hb2
  clear hb1 hb2 h2
  go_wp2_with fail
  go_ret2
  exact⟨by simp,HB.out⟩
 | false=>
  go_enter Tryz.func189,Tryz.ntmps189
  go_wp2_with fail
  refine NZ.out.mono ?_
  rintro e w1 ⟨rfl,hb1⟩
  obtain⟨W2,hst,hb2⟩:=HD.out w1 hb1
  have h2:SnIs W2 m s x:=HS.out.bel hb2
  have c7:W2.cell? ⟨s,53,none⟩=some (.bool false):=by rw[←hh];exact h2.cell 53
  have HB:=hid hb2
  clear hb1 hb2 h2
  go_wp2_with fail
  go_ret2
  exact⟨by simp,HB.out⟩
def stilC (m:Nat) (n:NodeA) (x:StP):Array Value:= #[ptrV m,.int .u64 x.at',.int .i64 n.lv,.int .u64 n.low,.int .u64 n.nx,.int .u64 n.ct,.int .u64 n.fi,.int .u64 (n.k 0),.int .u64 (n.k 1),.int .u64 (n.k 2),.int .u64 (n.k 3),.int .u64 (n.k 4),.int .u64 (n.k 5),.int .u64 (n.k 6),.int .u64 (n.k 7),.int .u64 (n.p 0),.int .u64 (n.p 1),.int .u64 (n.p 2),.int .u64 (n.p 3),.int .u64 (n.p 4),.int .u64 (n.p 5),.int .u64 (n.p 6),.int .u64 (n.p 7),.int .i64 x.k,.bool x.same,.bool x.over,.int .i64 0]
structure StIs (w:World) (m g:Nat) (n:NodeA) (x:StP):Prop where
 blk:Blk w g 293 (stilC m n x)
 nx:n.nx=x.nx
 ct:n.ct=x.ct
theorem stBuild (ps:Array (Nat×Value)):Instr.build 293 ps=bldMg 293 ps:=rfl
attribute [local go_sem ↓ high] stBuild
attribute [local go_sem] bldMg_run
theorem st_bld (m:Nat) (a:Int) (n:NodeA) (W:World):bldRg Tryz.prog 293 #[(0,ptrV m),(1,.int .u64 a),(2,.agg (nodeC n)),(3,.int .i64 2),(4,.bool true)] W= .ok (.agg (stilC m n (stNew a n))) W:=by kernel_rfl
theorem StNew_z (m:Nat) (a:Int) (n:NodeA) (w:World):Calls Tryz.prog 162 #[ptrV m,.int .u64 a,.agg (nodeC n)] w fun e w'=> ∃g,e= .returned (ptrV g)∧w.heap.size≤g∧StIs w' m g n (stNew a n)∧Below w.heap.size w w':=by
 have BL:=fun W=>st_bld m a n W
 obtain⟨W1,hW1⟩: ∃W1,W1=w.alloc (.cells (nodeC n) 77):=⟨_,rfl⟩
 have k1:Blk W1 w.heap.size 77 (nodeC n):=by rw[hW1];exact Blk.new _ _ _
 have hld:=node_ld k1
 have hb1:Below w.heap.size w W1:=by rw[hW1];exact ba (Below.refl _ _) _
 have HW:=hid hW1
 have HB:=hid hb1
 clear hW1 k1 hb1
 go_enter Tryz.func162,Tryz.ntmps162
 go_upto_region 1 with fail
 rw[show _=W1 from HW.out.symm]
 go_wp2_with fail
 go_ret
 exact⟨_,rfl,HB.out.size,⟨Blk.new _ _ _,rfl,rfl⟩,ba HB.out _⟩
end Go.Proofs.YtjmaicckkkdjpaaGreat
/- Steps of Still, of Last. -/
namespace Go.Proofs.YtjmaicckkkdjpaaGreat
open Go.RowKit
attribute [local go_sem ↓ high] nodeLoadAt nodeLoadVar nodeStoreAt
attribute [local go_sem] ldM_run lvM_run stM_run Oper.semAt_some run_store_fnG
theorem StStep_z (m g:Nat) (B:MB) (M:MemS) (n:NodeA) (x:StP) (hov:x.over=false) (hk:x.k=2∨x.k=3) (hin:inV M.view x.adr) (hat:0≤x.at'∧x.at'≤1099511627776) (w:World) (hm:MemIs w m B M) (hs:StIs w m g n x) (ha:g∉footM m B M):
  Calls Tryz.prog 235 #[ptrV g] w fun e w'=>e= .returned (.tuple #[.bool (x.next M.view).over,.int .i64 0])∧Lded w w' m B M [g,m]∧StIs w' m g n (x.next M.view):=by
 obtain⟨kn,hkn⟩: ∃kn:Nat,x.k=(kn:Int):=⟨x.k.toNat,by omega⟩
 have hk24:kn<24:=by omega
 have hadr:x.adr=x.at'+8*(kn:Int):=by unfold StP.adr;rw[hkn]
 have LZ:=hid (Load_a m B M _ hin w.drew (hm.only ((Only.refl [] w).drew) (by simp)))
 have SZ:=hid (Size_m m B M.view.length M.st hm.pos hm.big w hm.blk)
 have i1: ¬((8*M.view.length:Nat):Int)=0:=by have:=hm.pos;omega
 have b1:(((8*M.view.length:Nat):Int)==0)=false:=by simpa using i1
 obtain⟨X,hX⟩: ∃X,X=wdV M.view x.adr:=⟨_,rfl⟩
 have hn:x.next M.view={ x with same:=x.same&&decide (X=if x.k=3 then x.ct else x.nx),over:=decide (x.k=3),k:=3 }:=by unfold StP.next;rw[if_neg (by rw[hov];simp),hX]
 rw[hn]
 rw[←hX] at LZ
 rw[hadr] at LZ
 have WZ:=fun W=>hid (Word_s x.at' kn hat hk24 W)
 have c3:w.cell? ⟨g,23,none⟩=some (.int .i64 (kn:Int)):=by rw[←hkn];exact hs.blk.cell 23
 have c5:w.cell? ⟨g,25,none⟩=some (.bool false):=by rw[←hov];exact hs.blk.cell 25
 have c0:w.cell? ⟨g,0,none⟩=some (ptrV m):=hs.blk.cell 0
 have z0:w.drew.cell? ⟨g,0,none⟩=some (ptrV m):=hs.blk.cell 0
 have z1:w.drew.cell? ⟨g,1,none⟩=some (.int .u64 x.at'):=hs.blk.cell 1
 have z2:w.drew.cell? ⟨g,23,none⟩=some (.int .i64 (kn:Int)):=c3
 have hsm:g≠m:=fun e=>ha (by rw[e];simp[footM])
 have KF:Hid (∀W,Lded w.drew W m B M [m]→W.cell? ⟨g,0,none⟩=some (ptrV m)∧W.cell? ⟨g,1,none⟩=some (.int .u64 x.at')∧W.cell? ⟨g,23,none⟩=some (.int .i64 (kn:Int))∧Blk W g 293 (stilC m n x)):=by
  intro W hW
  obtain⟨_,_,_,_,_,_,ho⟩:=hW
  have hb:Blk W g 293 (stilC m n x):=ho.blk hs.blk.drew (by simpa using hsm)
  exact⟨hb.cell 0,hb.cell 1,by rw[←hkn];exact hb.cell 23,hb⟩
 have HX:=hid (⟨hov,hkn,ha,hs.nx,hs.ct⟩:_∧_∧_∧_∧_)
 have b0:((kn:Int)==0)=false:=by rw[←hkn];simp;omega
 have hsb: ∃sb,sb=x.same:=⟨_,rfl⟩
 obtain⟨sb,hsb⟩:=hsb
 by_cases h3:kn=3
 ·subst h3
  have h3:True:=trivial
  have b3:(((3:Nat):Int)==3)=true:=rfl
  have hk3:x.k=3:=hkn
  rw[if_pos hk3,decide_eq_true hk3]
  have HSB:=hid hsb
  clear hs hm ha hsm hX hadr hkn hn hov hin hat hk i1 hk3 hsb h3
  cases sb with
  | false=>
   go_enter Tryz.func235,Tryz.ntmps235
   go_wp2_with fail
   refine SZ.out.mono ?_
   rintro e w1 ⟨rfl,rfl⟩
   go_upto_region 8 with fail
   go_region_held3 (fun W=>W.cell? ⟨g,0,none⟩=some (ptrV m)∧W.cell? ⟨g,1,none⟩=some (.int .u64 x.at')∧W.cell? ⟨g,23,none⟩=some (.int .i64 ((3:Nat):Int))) (go_keep)
    (first | (go_at_call 199;refine(WZ _).out.mono ?_;rintro e w1 ⟨rfl,rfl⟩) | (go_at_call 152;refine LZ.out.mono ?_;rintro e w1 ⟨rfl,hL⟩;obtain⟨x0,x1,x2,hb⟩:=KF.out w1 hL;have HL:=hid hL;have HB:=hid hb;clear hL hb))
   have d4:w1.cell? ⟨g,4,none⟩=some (.int .u64 x.nx):=by rw[←HX.out.2.2.2.1];exact HB.out.cell 4
   have d5:w1.cell? ⟨g,5,none⟩=some (.int .u64 x.ct):=by rw[←HX.out.2.2.2.2];exact HB.out.cell 5
   have d24:w1.cell? ⟨g,24,none⟩=some (.bool false):=by rw[HSB.out];exact HB.out.cell 24
   have d25:w1.cell? ⟨g,25,none⟩=some (.bool x.over):=HB.out.cell 25
   have d26:w1.cell? ⟨g,26,none⟩=some (.int .i64 0):=HB.out.cell 26
   have e23:=HB.out.frozen 23
   have e24:=HB.out.frozen 24
   have e25:=HB.out.frozen 25
   have e26:=HB.out.frozen 26
   clear c0 c3 c5 z0 z1 z2 x0 x1 LZ WZ KF SZ
   go_wp2_with fail
   go_ret2
   refine⟨rfl,Lded.only (HL.out.drew.mono (g:=[g,m]) (by simp)) (g:=[g]) (by repeat(first | exact Only.refl _ _ | (refine Only.drew ?_) | (refine Only.drewN ?_ _) | (refine Only.setCell ?_ (Or.inl (by simp)) _) | (refine Only.alloc ?_ _))) (fun y hy=>⟨Or.inl (by simp at hy;simp[hy]),by simp at hy;subst hy;exact HX.out.2.2.1⟩),?_,HX.out.2.2.2.1,HX.out.2.2.2.2⟩
   have h:=(((HB.out.set_ 24 (.bool false)).set_ 25 (.bool true)).set_ 26 (.int .i64 0)).set_ 23 (.int .i64 3)
   have e:(x.same&&decide (X=x.ct))=false:=by rw[←HSB.out];simp
   rw[e]
   exact h
  | true=>
   go_enter Tryz.func235,Tryz.ntmps235
   go_wp2_with fail
   refine SZ.out.mono ?_
   rintro e w1 ⟨rfl,rfl⟩
   go_upto_region 8 with fail
   go_region_held3 (fun W=>W.cell? ⟨g,0,none⟩=some (ptrV m)∧W.cell? ⟨g,1,none⟩=some (.int .u64 x.at')∧W.cell? ⟨g,23,none⟩=some (.int .i64 ((3:Nat):Int))) (go_keep)
    (first | (go_at_call 199;refine(WZ _).out.mono ?_;rintro e w1 ⟨rfl,rfl⟩) | (go_at_call 152;refine LZ.out.mono ?_;rintro e w1 ⟨rfl,hL⟩;obtain⟨x0,x1,x2,hb⟩:=KF.out w1 hL;have HL:=hid hL;have HB:=hid hb;clear hL hb))
   have d4:w1.cell? ⟨g,4,none⟩=some (.int .u64 x.nx):=by rw[←HX.out.2.2.2.1];exact HB.out.cell 4
   have d5:w1.cell? ⟨g,5,none⟩=some (.int .u64 x.ct):=by rw[←HX.out.2.2.2.2];exact HB.out.cell 5
   have d24:w1.cell? ⟨g,24,none⟩=some (.bool true):=by rw[HSB.out];exact HB.out.cell 24
   have d25:w1.cell? ⟨g,25,none⟩=some (.bool x.over):=HB.out.cell 25
   have d26:w1.cell? ⟨g,26,none⟩=some (.int .i64 0):=HB.out.cell 26
   have e23:=HB.out.frozen 23
   have e24:=HB.out.frozen 24
   have e25:=HB.out.frozen 25
   have e26:=HB.out.frozen 26
   clear c0 c3 c5 z0 z1 z2 x0 x1 LZ WZ KF SZ
   go_wp2_with fail
   go_ret2
   refine⟨rfl,Lded.only (HL.out.drew.mono (g:=[g,m]) (by simp)) (g:=[g]) (by repeat(first | exact Only.refl _ _ | (refine Only.drew ?_) | (refine Only.drewN ?_ _) | (refine Only.setCell ?_ (Or.inl (by simp)) _) | (refine Only.alloc ?_ _))) (fun y hy=>⟨Or.inl (by simp at hy;simp[hy]),by simp at hy;subst hy;exact HX.out.2.2.1⟩),?_,HX.out.2.2.2.1,HX.out.2.2.2.2⟩
   have h:=(((HB.out.set_ 24 (.bool (X==x.ct))).set_ 25 (.bool true)).set_ 26 (.int .i64 0)).set_ 23 (.int .i64 3)
   have e:(x.same&&decide (X=x.ct))=(X==x.ct):=by rw[←HSB.out,Bool.true_and];rfl
   rw[e]
   exact h
 ·have hk2:kn=2:=by omega
  subst hk2
  have b3:(((2:Nat):Int)==3)=false:=rfl
  have hk3: ¬x.k=3:=by rw[hkn];decide
  rw[if_neg hk3,decide_eq_false hk3]
  have HSB:=hid hsb
  clear hs hm ha hsm hX hadr hkn hn hov hin hat hk i1 hk3 hsb h3
  cases sb with
  | false=>
   go_enter Tryz.func235,Tryz.ntmps235
   go_wp2_with fail
   refine SZ.out.mono ?_
   rintro e w1 ⟨rfl,rfl⟩
   go_upto_region 8 with fail
   go_region_held3 (fun W=>W.cell? ⟨g,0,none⟩=some (ptrV m)∧W.cell? ⟨g,1,none⟩=some (.int .u64 x.at')∧W.cell? ⟨g,23,none⟩=some (.int .i64 ((2:Nat):Int))) (go_keep)
    (first | (go_at_call 199;refine(WZ _).out.mono ?_;rintro e w1 ⟨rfl,rfl⟩) | (go_at_call 152;refine LZ.out.mono ?_;rintro e w1 ⟨rfl,hL⟩;obtain⟨x0,x1,x2,hb⟩:=KF.out w1 hL;have HL:=hid hL;have HB:=hid hb;clear hL hb))
   have d4:w1.cell? ⟨g,4,none⟩=some (.int .u64 x.nx):=by rw[←HX.out.2.2.2.1];exact HB.out.cell 4
   have d5:w1.cell? ⟨g,5,none⟩=some (.int .u64 x.ct):=by rw[←HX.out.2.2.2.2];exact HB.out.cell 5
   have d24:w1.cell? ⟨g,24,none⟩=some (.bool false):=by rw[HSB.out];exact HB.out.cell 24
   have d25:w1.cell? ⟨g,25,none⟩=some (.bool x.over):=HB.out.cell 25
   have d26:w1.cell? ⟨g,26,none⟩=some (.int .i64 0):=HB.out.cell 26
   have e23:=HB.out.frozen 23
   have e24:=HB.out.frozen 24
   have e25:=HB.out.frozen 25
   have e26:=HB.out.frozen 26
   clear c0 c3 c5 z0 z1 z2 x0 x1 LZ WZ KF SZ
   go_wp2_with fail
   go_ret2
   refine⟨rfl,Lded.only (HL.out.drew.mono (g:=[g,m]) (by simp)) (g:=[g]) (by repeat(first | exact Only.refl _ _ | (refine Only.drew ?_) | (refine Only.drewN ?_ _) | (refine Only.setCell ?_ (Or.inl (by simp)) _) | (refine Only.alloc ?_ _))) (fun y hy=>⟨Or.inl (by simp at hy;simp[hy]),by simp at hy;subst hy;exact HX.out.2.2.1⟩),?_,HX.out.2.2.2.1,HX.out.2.2.2.2⟩
   have h:=(((HB.out.set_ 24 (.bool false)).set_ 25 (.bool false)).set_ 26 (.int .i64 0)).set_ 23 (.int .i64 3)
   have e:(x.same&&decide (X=x.nx))=false:=by rw[←HSB.out];simp
   rw[e]
   exact h
  | true=>
   go_enter Tryz.func235,Tryz.ntmps235
   go_wp2_with fail
   refine SZ.out.mono ?_
   rintro e w1 ⟨rfl,rfl⟩
   go_upto_region 8 with fail
   go_region_held3 (fun W=>W.cell? ⟨g,0,none⟩=some (ptrV m)∧W.cell? ⟨g,1,none⟩=some (.int .u64 x.at')∧W.cell? ⟨g,23,none⟩=some (.int .i64 ((2:Nat):Int))) (go_keep)
    (first | (go_at_call 199;refine(WZ _).out.mono ?_;rintro e w1 ⟨rfl,rfl⟩) | (go_at_call 152;refine LZ.out.mono ?_;rintro e w1 ⟨rfl,hL⟩;obtain⟨x0,x1,x2,hb⟩:=KF.out w1 hL;have HL:=hid hL;have HB:=hid hb;clear hL hb))
   have d4:w1.cell? ⟨g,4,none⟩=some (.int .u64 x.nx):=by rw[←HX.out.2.2.2.1];exact HB.out.cell 4
   have d5:w1.cell? ⟨g,5,none⟩=some (.int .u64 x.ct):=by rw[←HX.out.2.2.2.2];exact HB.out.cell 5
   have d24:w1.cell? ⟨g,24,none⟩=some (.bool true):=by rw[HSB.out];exact HB.out.cell 24
   have d25:w1.cell? ⟨g,25,none⟩=some (.bool x.over):=HB.out.cell 25
   have d26:w1.cell? ⟨g,26,none⟩=some (.int .i64 0):=HB.out.cell 26
   have e23:=HB.out.frozen 23
   have e24:=HB.out.frozen 24
   have e25:=HB.out.frozen 25
   have e26:=HB.out.frozen 26
   clear c0 c3 c5 z0 z1 z2 x0 x1 LZ WZ KF SZ
   go_wp2_with fail
   go_ret2
   refine⟨rfl,Lded.only (HL.out.drew.mono (g:=[g,m]) (by simp)) (g:=[g]) (by repeat(first | exact Only.refl _ _ | (refine Only.drew ?_) | (refine Only.drewN ?_ _) | (refine Only.setCell ?_ (Or.inl (by simp)) _) | (refine Only.alloc ?_ _))) (fun y hy=>⟨Or.inl (by simp at hy;simp[hy]),by simp at hy;subst hy;exact HX.out.2.2.1⟩),?_,HX.out.2.2.2.1,HX.out.2.2.2.2⟩
   have h:=(((HB.out.set_ 24 (.bool (X==x.nx))).set_ 25 (.bool false)).set_ 26 (.int .i64 0)).set_ 23 (.int .i64 3)
   have e:(x.same&&decide (X=x.nx))=(X==x.nx):=by rw[←HSB.out,Bool.true_and];rfl
   rw[e]
   exact h
theorem StSame_z (m g:Nat) (n:NodeA) (x:StP) (hov:x.over=true) (w:World) (hs:StIs w m g n x):
  Calls Tryz.prog 164 #[ptrV g] w fun e w'=>e= .returned (.bool x.same)∧w'=w:=by
 have c5:w.cell? ⟨g,25,none⟩=some (.bool true):=by rw[←hov];exact hs.blk.cell 25
 have c6:w.cell? ⟨g,26,none⟩=some (.int .i64 0):=hs.blk.cell 26
 have c4:w.cell? ⟨g,24,none⟩=some (.bool x.same):=hs.blk.cell 24
 clear hs
 go_enter Tryz.func164,Tryz.ntmps164
 go_wp2
 go_ret
 exact⟨rfl,rfl⟩
def lastC (m:Nat) (c:Int) (lv:Value) (ov:Bool):Array Value:= #[ptrV m,.int .i64 c,lv,.bool true,.bool ov,.int .i64 0]
structure LtIs (w:World) (m g r:Nat) (x:LtP):Prop where
 blk: ∃p c,Blk w g 290 (lastC m x.client (.slice p x.lines.length c) x.over)∧x.lines.length≤c∧(x.lines≠[]→ ∃off,p=some ⟨r,off,none⟩∧ ∀i a,x.lines[i]?=some a→w.cell? ⟨r,off+i,none⟩=some (.int .u64 a))
 rlt:r<w.heap.size
 ne:r≠g
theorem ltBuild (ps:Array (Nat×Value)):Instr.build 290 ps=bldMg 290 ps:=rfl
attribute [local go_sem ↓ high] ltBuild
attribute [local go_sem] bldMg_run
theorem lt_bld (m:Nat) (c:Int) (p:Option Addr) (k cc:Nat) (W:World):bldRg Tryz.prog 290 #[(0,ptrV m),(1,.int .i64 c),(2,.slice p k cc),(3,.bool true)] W= .ok (.agg (lastC m c (.slice p k cc) false)) W:=by kernel_rfl
theorem LtNew_z (m:Nat) (c:Int) (v:Value) (xs:List Int) (w:World) (hv:NumsAt .u64 w v xs) (hn:xs.length≤1000) (h0:0<xs.length):
  Calls Tryz.prog 158 #[ptrV m,.int .i64 c,v] w fun e w'=> ∃g r,e= .returned (ptrV g)∧w.heap.size≤g∧w.heap.size≤r∧LtIs w' m g r ⟨c,xs,false⟩∧Below w.heap.size w w':=by
 have CZ:=hid (CloneA_g v xs w hv (by omega))
 have BL:=fun p k cc W=>lt_bld m c p k cc W
 have H0:=hid h0
 clear hv hn h0
 go_enter Tryz.func158,Tryz.ntmps158
 go_wp2_with fail
 refine CZ.out.mono ?_
 rintro e w1 ⟨v',rfl,hown,hb⟩
 obtain⟨g1,cap,rfl,hlo,hcap,hlt,hcl⟩:=own_some hown H0.out
 have HC:=hid (⟨hlo,hcap,hlt,hcl⟩:_∧_∧_∧_)
 have HB:=hid hb
 clear hown hlo hcap hlt hcl hb
 go_wp2_with fail
 go_ret
 obtain⟨hlo,hcap,hlt,hcl⟩:=HC.out
 refine⟨_,g1,rfl,HB.out.size,hlo,⟨⟨some ⟨g1,0,none⟩,cap,Blk.new _ _ _,hcap,fun _=>⟨0,rfl,fun i a ha=>ca _ (hcl i _ (by rw[List.getElem?_map];rw[show xs[i]?=some a from ha];rfl))⟩⟩,by rw[World.size_alloc];omega,by omega⟩,ba HB.out _⟩
end Go.Proofs.YtjmaicckkkdjpaaGreat
