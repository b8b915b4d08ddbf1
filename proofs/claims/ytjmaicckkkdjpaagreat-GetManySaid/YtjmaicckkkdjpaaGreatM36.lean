import Derived.Maps.RangeRun
import Derived.Laws.Externs
import Derived.Deep.MidRow
import Derived.Test.YtjmaicckkkdjpaaGreatM48
import Derived.Test.YtjmaicckkkdjpaaGreatM38
set_option maxRecDepth 100000
set_option maxHeartbeats 4000000
set_option linter.unusedVariables false
set_option linter.unusedSimpArgs false
/- Locks: new ones; a copy. -/
namespace Go.Proofs.YtjmaicckkkdjpaaGreat
open Go.RowKit
theorem LNew_t (c:Int) (hc:1≤c∧c≤64) (w:World):
  Calls Tryz.prog 106 #[.int .i64 c] w fun e w'=>e= .returned (.tuple #[.pointer (some ⟨w.heap.size+1,0,none⟩),.int .i64 0])∧TabIs w' (w.heap.size+1) w.heap.size c [] (List.replicate 64 0)∧Below w.heap.size w w':=by
 have i1: ¬c<1:=by omega
 have i2: ¬c>64:=by omega
 have hmm: ∀w,(Instr.makeMap 198 none).run Tryz.prog w= .ok (.map (some w.heap.size)) (w.alloc (.map #[] 0)):=fun _=>rfl
 have HC:=hid hc
 clear hc
 go_enter Tryz.func106,Tryz.ntmps106
 go_wp2
 go_ret2
 have hb:Below w.heap.size w ((w.alloc (.map #[] 0)).alloc (.cells ((Tryz.zeroCells255.setIfInBounds 0 (Value.int IntKind.i64 c)).setIfInBounds 1 (Value.map (some w.heap.size))) 255)):=by(repeat(first | exact Below.refl _ _ | (refine ba ?_ _) | (refine Below.drew ?_) | (refine below_drewN ?_ _) | (refine Below.alloc ?_ (by first | omega | (simp;done) | (simp;omega)) _) | (refine Below.setCell ?_ (by first | omega | (simp;done) | (simp;omega)) _) | (refine bx ?_ (by assumption)) | (refine Below.trans ?_ (Below.mono (by assumption) (by first | omega | (simp;done) | (simp;omega))))))
 refine⟨rfl,⟨?_,⟨#[],0,?_,rfl,by simp[BornOK]⟩,HC.out,by simp,by omega⟩,hb⟩
 ·have h1:=Blk.new (w.alloc (.map #[] 0)) 255 ((Tryz.zeroCells255.setIfInBounds 0 (Value.int IntKind.i64 c)).setIfInBounds 1 (Value.map (some w.heap.size)))
  simp only[World.size_alloc] at h1
  have h2:(Tryz.zeroCells255.setIfInBounds 0 (Value.int IntKind.i64 c)).setIfInBounds 1 (Value.map (some w.heap.size))=tabC c w.heap.size (List.replicate 64 0):=by rfl
  rw[h2] at h1
  exact h1
 ·exact(Below.heap_alloc _ _ _ (by simp)).trans (heap_alloc_new _ _)
theorem SNew_t (ma sa:Option Addr) (z n:Nat) (c:Int) (hn:1≤n∧n≤64) (hz:z=1024*(1+n)) (hc:1≤c∧c≤64) (w:World) (hm:HasMem w (.pointer ma) z) (hs:HasSlabs w (.pointer sa) n):
  Calls Tryz.prog 60 #[(.pointer ma),(.pointer sa),.int .i64 c] w fun e w'=>Below w.heap.size w w'∧ ∃x t mb,e= .returned (.tuple #[.pointer (some ⟨x,0,none⟩),.int .i64 0])∧SiteAt w' x (.pointer ma) (.pointer sa) t c∧TabIs w' t mb c [] (List.replicate 64 0)∧w.heap.size≤x∧w.heap.size≤t∧w.heap.size≤mb∧x≠t∧x≠mb:=by
 have HM:=hid hm
 have HS:=hid hs
 have HC:=hid hc
 have t0:((z:Int)==0)=false:=by simp;omega
 have t1:((n:Int)==0)=false:=by simp;omega
 have hsz:sizeZ (n:Int)=(z:Int):=by unfold sizeZ;rw[if_pos (by omega)];omega
 have hSize:=Size_z (n:Int)
 rw[hsz] at hSize
 have HSZ:=hid hSize
 have t2:((z:Int) !=(z:Int))=false:=by simp
 clear hm hs hz hsz hSize hc hn
 go_enter Tryz.func60,Tryz.ntmps60
 go_wp2_with fail
 refine(MSize_z (.pointer ma) z w HM.out).mono ?_
 rintro e w1 ⟨rfl,rfl⟩
 go_wp2_with fail
 refine(Slabs_s (.pointer sa) n w HS.out).mono ?_
 rintro e w1 ⟨rfl,rfl⟩
 go_wp2_with fail
 refine(LNew_t c HC.out w).mono ?_
 rintro e w2 ⟨rfl,ht,hb⟩
 have HM2:=hid (HM.out.bel hb)
 have HS2:=hid (HS.out.bel hb)
 have HB:=hid hb
 have HT:=hid ht
 obtain⟨t,hte⟩: ∃t,t=w.heap.size+1:=⟨_,rfl⟩
 rw[←hte] at HT
 have HTE:=hid hte
 rw[←hte]
 clear hb ht hte
 go_wp2_with fail
 refine(MSize_z (.pointer ma) z w2 HM2.out).mono ?_
 rintro e w1 ⟨rfl,rfl⟩
 go_wp2_with fail
 refine(Slabs_s (.pointer sa) n w2 HS2.out).mono ?_
 rintro e w1 ⟨rfl,rfl⟩
 go_wp2_with fail
 refine(HSZ.out w2).mono ?_
 rintro e w1 ⟨rfl,rfl⟩
 go_wp2
 go_ret2
 have hal:Below w2.heap.size w2 (w2.alloc (.cells #[(.pointer ma),(.pointer sa),.pointer (some ⟨t,0,none⟩)] 219)):=ba (Below.refl _ _) _
 have hl:=HT.out.lt
 have hte:=HTE.out
 refine⟨bx HB.out hal,w2.heap.size,t,w.heap.size,rfl,⟨Blk.new w2 _ _,(hal.cell (p:=⟨t,0,none⟩) hl.1).trans HT.out.cc,Nat.lt_of_lt_of_le hl.1 hal.size,HC.out⟩,HT.out.only (Only.of_below hal []) (by simp) (by simp),HB.out.size,by omega,Nat.le_refl _,by omega,by omega⟩
end Go.Proofs.YtjmaicckkkdjpaaGreat
/- A site over an image, with a few blocks that nobody has: what holds meanwhile. -/
namespace Go.Proofs.YtjmaicckkkdjpaaGreat
open Go.RowKit
theorem info_addr:(Tryz.prog.info? 62).map (fun i=>(i.zero,i.size,i.bytes))=some (some (.int .u64 0),1,8):=by kernel_rfl
def addrV (x:Int):Value:= .int .u64 x
structure OvI (w:World) (N1 n si m:Nat) (MB:MB) (M:MemS) (S:SB) (size:Int) (wb:Nat) (av:Value) (gs gt:List Int) (sp:Value) (W:World):Prop where
 sl: ∃A V,SlabIs W N1 S V size A∧RoomI A n 1 gt∧roomSA A 1≤3000∧(∀x,sp.ownBlock=some x→x∉foot S V)∧wb∉foot S V∧si∉foot S V
 row:W.ownsRow w.heap.size 62 1 sp gs.length (gs.map addrV)
 spo: ∀x,sp.ownBlock=some x→N1≤x∧x≠wb∧x≠si
 blk:Blk W wb 36 #[av,ptrV si,ptrV m,sp]
 site:W.cell? ⟨si,0,none⟩=some (ptrV m)
 mem:MemIs W m MB M
 ne:si≠wb
 low: ∀k∈footM m MB M,w.heap.size≤k∧k<N1
 lo:w.heap.size≤N1∧N1≤si∧N1≤wb
 bel:Below w.heap.size w W
theorem own_lt2 {w:World} {base:Nat} {e:TypeId} {size n:Nat} {v:Value} {xs:List Value} (h:w.ownsRow base e size v n xs): ∀k,v.ownBlock=some k→k<w.heap.size:=by
 intro k hk
 rcases h.2 with⟨rfl,_⟩ | ⟨gB,capB,curB,rfl,hgB,hhB,_⟩
 ·simp[Value.ownBlock] at hk
 ·simp[Value.ownBlock] at hk
  rw[←hk]
  exact(Array.getElem?_eq_some_iff.1 hhB).1
theorem ov_cell {W W':World} (hb:Below W.heap.size W W') {p:Addr} {v:Value} (h:W.cell? p=some v):W'.cell? p=some v:=(hb.cell (World.block_lt_of_cell? _ _ h)).trans h
theorem bytesIn_bel {w w':World} {p:Option Addr} {cap:Nat} {bs:List Int} (h:BytesIn w p cap bs) (hb:Below w.heap.size w w'):BytesIn w' p cap bs:=
 ⟨h.1,h.2.1,fun h0=>by
  obtain⟨b,off,h1,h2,h3⟩:=h.2.2 h0
  exact⟨b,off,h1,Nat.lt_of_lt_of_le h2 hb.size,fun i x hx=>ov_cell hb (h3 i x hx)⟩⟩
theorem OvI.sil {w W:World} {N1 n si m:Nat} {MB:MB} {M:MemS} {S:SB} {size:Int} {wb:Nat} {av:Value} {gs gt:List Int} {sp:Value} (h:OvI w N1 n si m MB M S size wb av gs gt sp W):si<W.heap.size:=World.block_lt_of_cell? _ _ h.site
theorem OvI.rsv {w W W':World} {N1 n si m:Nat} {MB:MB} {M:MemS} {S:SB} {size:Int} {wb:Nat} {av:Value} {gs gt gt':List Int} {sp:Value} (h:OvI w N1 n si m MB M S size wb av gs gt sp W) {A A':SA} {V V':Nat→Value} (hs:SlabIs W N1 S V size A) (hV:(∀x,sp.ownBlock=some x→x∉foot S V)∧wb∉foot S V∧si∉foot S V) (hs':SlabIs W' N1 S V' size A') (hr:RoomI A' n 1 gt') (hn:roomSA A' 1≤3000) (hm:Moved S V V' W W'):OvI w N1 n si m MB M S size wb av gs gt' sp W':=by
 have hlo: ∀x∈foot S V,N1≤x:=fun x hx=>by obtain⟨i,hi⟩:=foot_mem.1 hx;exact hs.lo i x hi
 have new: ∀{x:Nat},x<W.heap.size→x∉foot S V→x∉foot S V':=fun hx hn hm'=>by
  rcases hm.foot _ hm' with q | q
  ·exact hn q
  ·omega
 refine⟨⟨A',V',hs',hr,hn,fun x hx=>new ((own_lt2 h.row x hx)) (hV.1 x hx),new h.blk.lt hV.2.1,new h.sil hV.2.2⟩,hm.only.own h.row hV.1,h.spo,hm.only.blk h.blk hV.2.1,(hm.only.cell (p:=⟨si,0,none⟩) h.sil hV.2.2).trans h.site,h.mem.only hm.only (fun k hk hf=> ?_),h.ne,h.low,h.lo,?_⟩
 ·have:=hlo k hf;have:=(h.low k hk).2;omega
 ·exact h.bel.trans (hm.only.below (fun x hx=>by have:=hlo x hx;have:=h.lo.1;omega) h.bel.size)
theorem OvI.app {w W W7:World} {N1 n si m:Nat} {MB:MB} {M:MemS} {S:SB} {size:Int} {wb:Nat} {av:Value} {gs gt:List Int} {a:Int} {sp v':Value} (h:OvI w N1 n si m MB M S size wb av gs gt sp W)
  (hg:(W.alloc (.cells #[.int .u64 a] 62)).grownBy W7 sp.ownBlock) (hown:W7.ownsRow w.heap.size 62 1 v' (gs.length+1) ((gs++[a]).map addrV)) (hat:v'.ownBlock=sp.ownBlock∨v'.ownBlock=some (W.alloc (.cells #[.int .u64 a] 62)).heap.size):
  Blk W7 wb 36 #[av,ptrV si,ptrV m,sp]∧OvI w N1 n si m MB M S size wb av (gs++[a]) gt v' (W7.setCell ⟨wb,3,none⟩ v'):=by
 have hal:Below W.heap.size W (W.alloc (.cells #[.int .u64 a] 62)):=ba (Below.refl _ _) _
 have ho:Only sp.ownBlock.toList (W.alloc (.cells #[.int .u64 a] 62)) W7:=Only.of_grown hg (fun x hx=>Option.mem_toList.2 hx)
 have ho2:Only sp.ownBlock.toList W W7:=(Only.of_below hal _).trans ho (fun x hx=>Or.inl hx)
 have hwb:wb∉sp.ownBlock.toList:=fun hx=>(h.spo wb (Option.mem_toList.1 hx)).2.1 rfl
 have k7:=ho2.blk h.blk hwb
 have hset:Only [wb] W7 (W7.setCell ⟨wb,3,none⟩ v'):=(Only.refl _ _).setCell (Or.inl (by simp)) v'
 have ho3:Only (wb::sp.ownBlock.toList) W (W7.setCell ⟨wb,3,none⟩ v'):=(Only.mono ho2 (fun x hx=>List.mem_cons_of_mem _ hx)).trans hset (fun x hx=>Or.inl (by simp at hx;simp[hx]))
 have hv: ∀x,v'.ownBlock=some x→N1≤x∧x≠wb∧x≠si:=fun x hx=>by
  rcases hat with e | e
  ·exact h.spo x (e.symm.trans hx)
  ·rw[e,World.size_alloc] at hx
   injection hx with hx
   have h1:=h.blk.lt
   have h2:=h.sil
   have h3:=h.lo
   omega
 obtain⟨A,V,q1,q2,q3,q4,q5,q6⟩:=h.sl
 have hno: ∀k∈wb::sp.ownBlock.toList,k∉foot S V:=fun k hk=>by
  rcases List.mem_cons.1 hk with rfl | hk
  ·exact q5
  ·exact q4 k (Option.mem_toList.1 hk)
 refine⟨k7,⟨A,V,q1.only ho3 (fun i k hi hm=>hno k hm (foot_mem.2 ⟨i,hi⟩)),q2,q3,fun x hx=> ?_,q5,q6⟩,?_,hv,?_,?_,?_,h.ne,h.low,h.lo,?_⟩
 ·rcases hat with e | e
  ·exact q4 x (e.symm.trans hx)
  ·rw[e,World.size_alloc] at hx
   injection hx with hx
   intro hm
   obtain⟨i,hi⟩:=foot_mem.1 hm
   have:=q1.lt hi
   omega
 ·rw[List.length_append]
  exact hset.own hown (fun k hk hm=>by simp at hm;exact(hv k hk).2.1 hm)
 ·exact k7.set_ 3 v'
 ·refine(ho3.cell (p:=⟨si,0,none⟩) h.sil ?_).trans h.site
  intro hm
  rcases List.mem_cons.1 hm with e | e
  ·exact h.ne e
  ·exact(h.spo si (Option.mem_toList.1 e)).2.2 rfl
 ·refine h.mem.only ho3 (fun k hk hm=> ?_)
  have:=(h.low k hk).2
  rcases List.mem_cons.1 hm with rfl | e
  ·have:=h.lo.2.2;omega
  ·have:=(h.spo k (Option.mem_toList.1 e)).1;omega
 ·refine h.bel.trans (ho3.below (fun x hx=> ?_) h.bel.size)
  rcases List.mem_cons.1 hx with rfl | e
  ·have:=h.lo;omega
  ·have:=(h.spo x (Option.mem_toList.1 e)).1;have:=h.lo.1;omega
end Go.Proofs.YtjmaicckkkdjpaaGreat
/- A site over an image, walked. -/
namespace Go.Proofs.YtjmaicckkkdjpaaGreat
open Go.RowKit
attribute [local go_sem ↓ high] append_shut2
def OvPs (w:World) (ws:List Int) (n:Nat) (e:Ending) (w':World):Prop:=
 ∃N1 si m MB S size wb gs sp,e= .returned (ptrV wb)∧OvI w N1 n si m MB (freshM ws) S size wb (.pointer none) gs gs sp w'∧gs.length≤4
theorem ov_room (bs:List Int) (n:Nat) (hn:1≤n∧n≤64):RoomI (ofTo bs n n) n 1 []∧roomSA (ofTo bs n n) 1≤3000:=by
 have hl0:=ofTo_hd bs n n
 refine⟨⟨hl0,ofTo_fr bs n n (Nat.le_refl _) 1,List.nodup_nil,fun _ h=>by cases h⟩,?_⟩
 unfold roomSA
 have h0:=ofTo_len bs n n 1
 have h1:=noughtN_le (ofTo bs n n).hd (ofTo bs n n).hd.length
 have h2:=nb_le 1
 have h3:noughtN (ofTo bs n n).hd (ofTo bs n n).hd.length*nb 1≤65*15:=Nat.mul_le_mul (by omega) h2
 omega
theorem Over_z (n:Nat) (bs:List Int) (hn:1≤n∧n≤64) (hl:bs.length=1024*(n+1)) (hh: ∀i,1≤i→i≤n→headOK bs i=true) (p:Option Addr) (cap:Nat) (hcap:cap≤9223372036854775807) (w:World) (hb:BytesIn w p cap bs):
  Calls Tryz.prog 41 #[.slice p bs.length cap] w (OvPs w (wordsOf bs) n):=by
 have OZ:=hid (MOf_z p cap bs (by unfold mayB;simp only[decide_eq_true_eq];omega) hcap w hb)
 have HS:=hid (fun W (hB:Below w.heap.size w W)=>callsIn_wide.1 (SOf_in p cap bs n hn hl W (bytesIn_bel hb hB)))
 have HH:=hid (⟨hn,hl,hh⟩:_∧_∧_)
 have HW:Hid ((wordsOf bs).length=128*(n+1)):=hid (by unfold wordsOf;rw[List.length_map,List.length_range,hl];omega)
 have HRM:=hid (ov_room bs n hn)
 obtain⟨A0,hA0⟩: ∃A0,A0=ofTo bs n n:=⟨_,rfl⟩
 rw[←hA0] at HRM
 obtain⟨ws,hws⟩: ∃ws,ws=wordsOf bs:=⟨_,rfl⟩
 rw[←hws] at OZ HW ⊢
 obtain⟨q,hq⟩: ∃q,q=bs.length:=⟨_,rfl⟩
 rw[←hq] at OZ HS ⊢
 have HQ:=hid (⟨hq,hA0,hws⟩:_∧_∧_)
 clear hq hA0 hws hn hl hh hb hcap
 obtain⟨iA,hiA,zA0,zA1,zA2⟩:=info_parts info_addr
 go_enter Tryz.func41,Tryz.ntmps41
 go_wp2_with fail
 refine OZ.out.mono ?_
 rintro e w1 ⟨m,MB,rfl,hM,hb1,hlow⟩
 have S1:=hid (HS.out w1 hb1)
 have HB1:=hid hb1
 have HM:=hid (⟨hM,hlow,hM.foot_lt⟩:_∧_∧_)
 clear hb1 hM hlow OZ HS
 go_wp2_with fail
 refine S1.out.mono ?_
 rintro e w2 hp
 obtain⟨S,V,rfl,hs⟩:=hp.yes HH.out.2.2
 rw[←HQ.out.2.1] at hs
 have hb12:=hp.bel
 have hb2:Below w.heap.size w w2:=bx HB1.out hb12
 have hM2:MemIs w2 m MB (freshM ws):=HM.out.1.only (Only.of_below hb12 []) (by simp)
 have NW:=hid (SNew_t (some ⟨m,0,none⟩) (some ⟨S.s,0,none⟩) (1024*(1+n)) n 3 HH.out.1 rfl ⟨by omega,by omega⟩ w2 (Or.inr ⟨m,MB,ws.length,(freshM ws).st,rfl,hM2.pos,hM2.big,by have:=HW.out;omega,hM2.blk⟩) (HasSlabs.of hs HRM.out.1.len HH.out.1))
 have H2:=hid (⟨hs,hM2,hb2,hb12⟩:_∧_∧_∧_)
 clear hs hM2 hb2 hb12 hp S1
 go_wp2_with fail
 refine NW.out.mono ?_
 rintro e w3 ⟨hb23,si,t,tm,rfl,hsi,htb,n1,n2,n3,n4,n5⟩
 obtain⟨hs,hM2,hb2,hb12⟩:=H2.out
 have hb3:=bx hb2 hb23
 obtain⟨W4,hW4⟩: ∃W4,W4=w3.alloc (.cells #[.pointer none,ptrV si,ptrV m,.slice none 0 0] 36):=⟨_,rfl⟩
 have hb34:Below w3.heap.size w3 W4:=by rw[hW4];exact ba (Below.refl _ _) _
 have k4:Blk W4 w3.heap.size 36 #[.pointer none,ptrV si,ptrV m,.slice none 0 0]:=by rw[hW4];exact Blk.new _ _ _
 have hsl:=World.block_lt_of_cell? _ _ (hsi.blk.cell 0)
 have hI4:OvI w w1.heap.size n si m MB (freshM ws) S (q:Int) w3.heap.size (.pointer none) [] [] (.slice none 0 0) W4:=by
  have hb24:=bx hb23 hb34
  have hfo: ∀x∈foot S V,x<w2.heap.size:=fun x hx=>by obtain⟨i,hi⟩:=foot_mem.1 hx;exact hs.lt hi
  refine⟨⟨A0,V,hs.bel hb24,HRM.out.1,HRM.out.2,fun x hx=>by simp[Value.ownBlock] at hx,fun hm=> ?_,fun hm=> ?_⟩,World.ownsRow_nil _ _ _ _,fun x hx=>by simp[Value.ownBlock] at hx,k4,(ov_cell hb34 (hsi.blk.cell 0)),hM2.only (Only.of_below hb24 []) (by simp),?_,fun k hk=>⟨HM.out.2.1 k hk,HM.out.2.2 k hk⟩,⟨HB1.out.size,?_,?_⟩,bx hb3 hb34⟩
  ·have:=hfo _ hm;have:=hb23.size;omega
  ·have:=hfo _ hm;omega
  ·have:si<w3.heap.size:=hsl;omega
  ·have:=hb12.size;omega
  ·have:=hb12.size;have:=hb23.size;omega
 have HI4:=hid hI4
 have HW4:=hid hW4
 obtain⟨wb,hwb⟩: ∃wb,wb=w3.heap.size:=⟨_,rfl⟩
 rw[←hwb] at HI4
 clear hI4 hW4 k4 hb34 hb3 hb23 hsi htb n1 n2 n3 n4 n5 hs hM2 hb2 hb12 hsl NW H2
 have HN:=hid (⟨HH.out.1,HM.out.2.2,HB1.out.size⟩:_∧_∧_)
 have HEX:Hid (∃gs sp,gs.length≤0∧OvI w w1.heap.size n si m MB (freshM ws) S (q:Int) wb (.pointer none) gs gs sp W4):=hid ⟨[],_,Nat.le_refl _,HI4.out⟩
 clear HI4 HM HB1 HRM HW
 go_upto_region 9 with fail
 rw[show _=W4 from HW4.out.symm,←hwb]
 clear HW4 hwb
 go_wp2
 go_loopw [10] (fun i wr=> ∃k:Nat,k≤4∧i= .int .i64 k∧Hid (∃gs sp,gs.length≤k∧OvI w w1.heap.size n si m MB (freshM ws) S (q:Int) wb (.pointer none) gs gs sp wr)) (fun i _=>(4- (intOf i).toNat))
 case atStart=>exact⟨0,by omega,rfl,HEX⟩
 case round=>
  obtain⟨k,hk,rfl,hI⟩:=hrel
  clear HEX
  obtain⟨gs,sp,hgl,hJ⟩:=hI.out
  by_cases hlt:k<4
  ·have i1:(k:Int)<4:=by omega
   obtain⟨A,V1,q1,q2,q3,q4⟩:=hJ.sl
   have hfr:(A.fr 1).length≤50000:=by unfold roomSA at q3;omega
   have RV:Calls Tryz.prog 61 #[.pointer (some ⟨S.s,0,none⟩),.int .i64 1] wr fun e w'=>RsvPost wr w1.heap.size S V1 (q:Int) A 1 e w':=Reserve_z w1.heap.size S V1 (q:Int) A 1 n wr q1 (by have h1:=hJ.lo;have h2:=hJ.blk.lt;omega) q2.len HN.out.1 ⟨by omega,by omega⟩ hfr
   have RV:=hid RV
   have HJ:=hid (⟨hJ,q1,q2,q3,q4,hgl,hlt⟩:_∧_∧_∧_∧_∧_∧_)
   have hform:=rowForm hJ.row
   obtain⟨av,cv,rfl⟩:=hform
   clear hJ hI q1 q2 q3 q4 hgl hk hfr hlt
   go_wp2_with fail
   refine RV.out.mono ?_
   rintro e w5 hpost
   obtain⟨hJ,q1,q2,q3,q4,hgl,hlt⟩:=HJ.out
   rcases hpost.ok with⟨A',V',hA',rfl,hs5,hm5⟩ | ⟨n1,n2,rfl,hs5,hm5⟩
   ·have hnx:RoomI A' n 1 gs∧roomSA A' 1=roomSA A 1∧A'.fr 1≠[]:=by
     rcases hA' with⟨rfl,q⟩ | ⟨q,j,hj,hz,rfl,_⟩
     ·exact⟨q2,rfl,q⟩
     ·obtain⟨g1,g2⟩:=q2.give HN.out.1.2 ⟨by omega,by omega⟩ q j hj hz
      exact⟨g1,g2,giveSA_ne A (j+1) ⟨by omega,by omega⟩⟩
    obtain⟨g1,g2,g3⟩:=hnx.1.take hnx.2.2
    have hJ5:=hJ.rsv q1 q4 hs5 g1 (by have:=hnx.2.1;omega) hm5
    obtain⟨a,hae⟩: ∃a,a=at0 (A'.fr 1) 0:=⟨_,rfl⟩
    rw[←hae] at hJ5 ⊢
    have H5:=hid hJ5
    have hrow5:=hJ5.row
    have k5:w5.cell? ⟨wb,3,none⟩=some (.slice av gs.length cv):=hJ5.blk.cell 3
    have HG:=hid (⟨hgl,hlt⟩:_∧_)
    have ka:(w5.alloc (.cells #[.int .u64 a] 62)).cell? ⟨wb,3,none⟩=some (.slice av gs.length cv):=(hJ5.blk.alloc _).cell 3
    have HO:=hid (hrow5.alloc (.cells #[.int .u64 a] 62))
    have hsz5:=hJ5.bel.size
    have h63:gs.length+1≤maxLen:=by unfold maxLen;omega
    have hby:(gs.length+1)*8≤140737488355328:=by omega
    clear hpost hA' hs5 hm5 hnx g1 g2 g3 hae hJ q1 q2 q3 q4 hgl hlt hJ5 hrow5 RV
    go_wp2_with (at_builtin;go_must (refine wpList_append_own_at _ rfl _ _ 34 rfl w.heap.size 62 iA (.int .u64 0) 1 8 Tryz.underlying34 hiA zA0 zA1 zA2 rfl (by decide) _ _ _ rfl HO.out ⟨w5.heap.size,0,none⟩ 1 1 [.int .u64 a] rfl rfl (World.news_of_block (Blk.new w5 62 #[.int .u64 a])) (by simp[Value.oneCell']) h63 hby (by simp;omega) ?_);intro v' w7 hown' hgrow _ hat;obtain⟨va,vc,rfl⟩:=rowForm hown';obtain⟨k7,hI7⟩:=H5.out.app hgrow (by simpa[addrV] using hown') hat;have c7:w7.cell? ⟨wb,3,none⟩=some (.slice av gs.length cv):=k7.cell 3;have f7:w7.frozen? ⟨wb,3,none⟩=false:=k7.frozen 3;have HI7:=hid hI7;clear hI7 k7 hown' hgrow hat)
    go_roundw
    case rel=>exact⟨k+1,by have:=HG.out.2;omega,by go_num,hid ⟨gs++[a],_,by rw[List.length_append];have:=HG.out.1;simp;omega,HI7.out⟩⟩
    case measure=>simp[intOf];have:=HG.out.2;omega
   ·have hJ5:=hJ.rsv q1 q4 hs5 q2 q3 hm5
    have HG:=hid (⟨hJ5,hgl,hlt⟩:_∧_∧_)
    clear hpost n1 n2 hs5 hm5 hJ q1 q2 q3 q4 hgl hlt hJ5 RV
    go_wp2
    go_roundw
    case rel=>exact⟨k+1,by have:=HG.out.2.2;omega,by go_num,hid ⟨gs,_,by have:=HG.out.2.1;omega,HG.out.1⟩⟩
    case measure=>simp[intOf];have:=HG.out.2.2;omega
  ·have i1: ¬(k:Int)<4:=by omega
   have HJ:=hid (⟨hJ,by omega⟩:_∧gs.length≤4)
   clear hJ hI hgl hk hlt
   go_wp2
   go_ret
   exact⟨_,si,m,MB,S,_,wb,gs,sp,rfl,HJ.out.1,HJ.out.2⟩
end Go.Proofs.YtjmaicckkkdjpaaGreat
