/- A memory of words: its image's bytes. -/
import Derived.Test.YtibiekfjbibpbaaGreatPmX
import Derived.Test.YtibiekfjbibpbaaGreatOwnRow
import Derived.Test.YtibiekfjbibpbaaGreatRefM
set_option maxRecDepth 100000
set_option maxHeartbeats 2000000
set_option linter.unusedVariables false
set_option linter.unusedSimpArgs false
namespace Go.Proofs.YtibiekfjbibpbaaGreat
open Go.RowKit
attribute [local go_sem ↓ high] append_shut2
attribute [local go_sem] appM2_run
def wB (x:Int):List Int:=(List.range 8).map fun j=>x/256^j % 256
def bytesW (ws:List Int):List Int:=ws.flatMap wB
theorem wB_len (x:Int):(wB x).length=8:=rfl
theorem bytesW_len (ws:List Int):(bytesW ws).length=8*ws.length:=by
 unfold bytesW
 induction ws with
 | nil=>rfl
 | cons x ws ih=>rw[List.flatMap_cons,List.length_append,ih,wB_len,List.length_cons];omega
theorem bytesW_snoc (ws:List Int) (x:Int):bytesW (ws++[x])=bytesW ws++wB x:=by
 unfold bytesW;rw[List.flatMap_append];simp
theorem bytesW_byte (ws:List Int): ∀x∈bytesW ws,0≤x∧x<256:=by
 intro x hx
 obtain⟨y,_,hy⟩:=List.mem_flatMap.1 hx
 unfold wB at hy
 obtain⟨j,_,rfl⟩:=List.mem_map.1 hy
 exact⟨Int.emod_nonneg _ (by decide),Int.emod_lt_of_pos _ (by decide)⟩
theorem info_u8':(Tryz.prog.info? 5).map (fun i=>(i.zero,i.size,i.bytes))=some (some (.int .u8 0),1,1):=by kernel_rfl
theorem run_bytes (n:Nat) (hn:n≤131072) (w:World):(Instr.makeSlice 36 (.int .i64 0) (.int .i64 (8*(n:Int)))).run Tryz.prog w= .ok (.slice (some ⟨w.heap.size,0,none⟩) 0 (8*n)) (w.alloc (.cells (madeCells #[.int .u8 0] (8*n)) 5)):=by
 obtain⟨i,h1,h2,h3,h4⟩:=info_parts info_u8'
 have:=run_make (P:=Tryz.prog) w 36 5 i _ Tryz.underlying36 h1 h2 .i64 .i64 0 (8*(n:Int)) (by omega) (by omega) (by rw[h4];omega) (by omega)
 rw[show(8*(n:Int)).toNat=8*n by omega,h3] at this
 rw[this]
 show Result.ok _ (w.alloc (.cells (madeCells #[Value.int .u8 0] (8*n*1)) _))=_
 rw[Nat.mul_one]
 rfl
structure BytP (w:World) (ws:List Int) (k j:Nat) (v:Value) (W:World):Prop where
 row:W.ownsRow w.heap.size 5 1 v (8*k+j) ((bytesW (ws.take k)++(wB ((ws[k]?).getD 0)).take j).map (Value.int .u8))
 bel:Below w.heap.size w W
theorem BytP.next {w:World} {ws:List Int} {k:Nat} {v:Value} {W:World} (h:BytP w ws k 8 v W) {x:Int} (hx:ws[k]?=some x):BytP w ws (k+1) 0 v W:=by
 refine⟨?_,h.bel⟩
 have:=h.row
 rw[hx,Option.getD_some,show(wB x).take 8=wB x from rfl,←bytesW_snoc] at this
 obtain⟨hl,he⟩:=List.getElem?_eq_some_iff.1 hx
 rw[←he,←List.take_succ_eq_append_getElem hl] at this
 rw[List.take_zero,List.append_nil,show 8*(k+1)+0=8*k+8 by omega]
 exact this
theorem wB_take (x:Int) (j:Nat) (hj:j<8):(wB x).take (j+1)=(wB x).take j++[x/256^j % 256]:=by
 rcases(by omega:j=0∨j=1∨j=2∨j=3∨j=4∨j=5∨j=6∨j=7) with rfl | rfl | rfl | rfl | rfl | rfl | rfl | rfl<;>rfl
theorem BytP.app {w:World} {ws:List Int} {k j:Nat} {a:Option Addr} {c:Nat} {W:World} {x y:Int} (h:BytP w ws k j (.slice a (8*k+j) c) W) (hj:j<8) (hx:ws[k]?=some x) (hk:8*k+j+1≤1048576) (hy:y=x/256^j % 256):
  ∃a' c' w',appRun2 Tryz.prog #[36,36] 36 #[.slice a (8*k+j) c,.slice (some ⟨W.heap.size,0,none⟩) 1 1] (W.alloc (.cells #[.int .u8 y] 5))= .ok (.slice a' (8*k+j+1) c') w'∧BytP w ws k (j+1) (.slice a' (8*k+j+1) c') w':=by
 obtain⟨i0,hi0,hz0,hz1,hz2⟩:=info_parts info_u8'
 obtain⟨W1,hW1⟩: ∃W1,W1=W.alloc (.cells #[.int .u8 y] 5):=⟨_,rfl⟩
 have hb1:Below W.heap.size W W1:=by rw[hW1];exact ba (Below.refl _ _) _
 have hr:W1.ownsRow w.heap.size 5 1 (.slice a (8*k+j) c) (8*k+j) ((bytesW (ws.take k)++(wB ((ws[k]?).getD 0)).take j).map (Value.int .u8)):=by rw[hW1];exact h.row.alloc _
 have hn:NewsAt W1 (.slice (some ⟨W.heap.size,0,none⟩) 1 1) 1 [.int .u8 y]:=Or.inr ⟨W.heap.size,0,1,rfl,fun i u hi=>by
  rw[hW1,(Blk.new W 5 #[.int .u8 y]).cell (0+i),Nat.zero_add]
  simpa using hi⟩
 have hs:=h.bel.size
 rw[←hW1]
 obtain⟨v',w',q⟩:=run_app (P:=Tryz.prog) W1 w.heap.size 36 36 5 i0 _ 1 1 Tryz.underlying36 hi0 hz0 hz1 hz2 rfl (by decide) (.slice a (8*k+j) c) (8*k+j) _ hr _ 1 _ hn rfl (by
  intro u hu
  rw[List.mem_singleton.1 hu];rfl) (by unfold maxLen;omega) (by omega) (Nat.le_trans hs hb1.size)
 obtain⟨a',c',rfl⟩:=row_form1 q.own
 refine⟨a',c',w',q.run,?_,?_⟩
 ·have:=q.own
  rw[hx,Option.getD_some] at this
  rw[hx,Option.getD_some,wB_take x j hj,←hy,←List.append_assoc,List.map_append]
  exact this
 ·have ho:=Only.of_grown (f:=(Value.slice a (8*k+j) c).ownBlock.toList) q.grown (fun k hk=>by simp[hk])
  exact(h.bel.trans (hb1.mono hs)).trans (ho.below (fun y hy=>own_base h.row y (by simpa using hy)) (Nat.le_trans hs hb1.size))
theorem bytes_z (b cap:Nat) (ws:List Int) (w:World) (h:WrdsAt w b ws) (hn:0<ws.length) (hl:ws.length≤131072) (hr: ∀x∈ws,0≤x∧x<18446744073709551616):
  Calls Tryz.prog 178 #[.slice (some ⟨b,0,none⟩) ws.length cap] w fun e w'=> ∃p c,e= .returned (.slice p (bytesW ws).length c)∧BytesIn w' p c (bytesW ws)∧c≤maxLen∧Below w.heap.size w w':=by
 obtain⟨n,hn'⟩: ∃n,n=ws.length:=⟨_,rfl⟩
 rw[←hn'] at hn hl ⊢
 have hmul:IntKind.i64.wrap (8*(n:Int))=8*(n:Int):=IntWalk.i64_in _ ⟨by omega,by omega⟩
 have hmk:=run_bytes n hl w
 obtain⟨W0,hW0⟩: ∃W0,W0=w.alloc (.cells (madeCells #[Value.int .u8 0] (8*n)) 5):=⟨_,rfl⟩
 have hI0:BytP w ws 0 0 (.slice (some ⟨w.heap.size,0,none⟩) 0 (8*n)) W0:=by
  rw[hW0]
  exact⟨World.ownsRow_made w _ (8*n) (Nat.le_refl _) (by unfold maxLen;omega) (by rw[size_madeCells];simp),ba (Below.refl _ _) _⟩
 rw[←hW0] at hmk
 have HI0:=hid hI0
 have HN:=hid hn'
 have H:=hid h
 have HR:=hid hr
 clear h hr hn' hI0 hW0
 go_enter Tryz.func178,Tryz.ntmps178
 go_wp2
 go_loopw [3,12] (fun gv i wr=> ∃k:Nat,k≤n∧i= .int .i64 k∧Hid (BytP w ws k 0 gv wr)) (fun _ i _=>(n- (intOf i).toNat))
 case atStart=>exact⟨0,by omega,rfl,HI0⟩
 case round=>
  obtain⟨k,hk,rfl,hI⟩:=hrel
  by_cases hlt:k<n
  ·have i1:(k:Int)< (n:Int):=by omega
   have i0:(0:Int)≤(k:Int):=by omega
   obtain⟨x,hx⟩: ∃x,ws[k]?=some x:=⟨_,List.getElem?_eq_getElem (by rw[←HN.out];exact hlt)⟩
   have yx:=(H.out.cell hx)
   have yx':wr.cell? ⟨b,k,none⟩=some (.int .u64 x):=(hI.out.bel.cell (p:=⟨b,k,none⟩) (World.block_lt_of_cell? w _ yx)).trans yx
   have HX:=hid hx
   have HLT:=hid hlt
   clear hx hlt hk yx
   go_wp2
   go_loopw [3,5,16] (fun gv wv i wr=> ∃j:Nat,j≤8∧i= .int .i64 j∧wv= .int .u64 (x/256^j)∧Hid (BytP w ws k j gv wr)) (fun _ _ i _=>(8- (intOf i).toNat))
   case atStart=>exact⟨0,by omega,rfl,by simp,hI⟩
   case round=>
    obtain⟨j,hj,rfl,rfl,hJ⟩:=hrel
    by_cases hj8:j<8
    ·have j1:(j:Int)<8:=by omega
     have f3: ∃a c,u3=Value.slice a (8*k+j) c:=row_form1 hJ.out.row
     obtain⟨va,vc,rfl⟩:=f3
     obtain⟨y,hy⟩: ∃y,y=x/256^j:=⟨_,rfl⟩
     rw[←hy]
     have hyr:0≤y∧y<18446744073709551616:=by
      have hxr:=HR.out x (List.mem_of_getElem? HX.out)
      have hp:(0:Int)<256^j:=Int.pow_pos (by decide)
      rw[hy]
      exact⟨Int.ediv_nonneg hxr.1 (by omega),Int.lt_of_le_of_lt (Int.ediv_le_self _ hxr.1) hxr.2⟩
     obtain⟨a',c',w',hrun,hJ'⟩:=hJ.out.app hj8 HX.out (by omega) (y:=y % 256) (by rw[←hy])
     have HJ':=hid hJ'
     have HY:=hid hy
     have H8:=hid hj8
     clear hy hj8 hj hJ'
     go_wp2
     have he:y/256=x/256^ (j+1):=by rw[HY.out,Int.pow_succ,Int.ediv_ediv_of_nonneg (Int.le_of_lt (Int.pow_pos (by decide)))]
     refine⟨⟨j+1,H8.out,by go_num,by rw[he],HJ'⟩,by simp[intOf];have:=H8.out;omega⟩
    ·obtain rfl:j=8:=by omega
     have hJ9:=hid (hJ.out.next HX.out)
     clear hJ hj8 hj
     go_wp2
     go_roundw
     case rel=>exact⟨k+1,HLT.out,by go_num,hJ9⟩
     case measure=>simp[intOf];have:=HLT.out;omega
  ·obtain rfl:k=n:=by omega
   have i1: ¬(k:Int)< (k:Int):=by omega
   clear hlt hk
   go_wp2
   go_ret
   have hr:=hI.out.row
   rw[List.take_zero,List.append_nil,HN.out,List.take_length,Nat.add_zero,←bytesW_len] at hr
   have hbel:=hI.out.bel
   have hfin: ∃p c,u3=Value.slice p (bytesW ws).length c∧BytesIn wr p c (bytesW ws)∧c≤maxLen:=by
    rcases hr.2 with⟨hv,h0⟩ | ⟨q,cp,cur,hv,q2,q3,q4,q5,q6,q7⟩
    ·rw[bytesW_len,←HN.out] at h0;omega
    ·refine⟨some ⟨q,0,none⟩,cp,hv,⟨q4,bytesW_byte ws,fun _=>⟨q,0,rfl,(Array.getElem?_eq_some_iff.1 q3).1,fun i x hi=> ?_⟩⟩,q5⟩
     have hc:Blk wr q _ cur:=q3
     rw[hc.cell,Nat.zero_add,←Array.getElem?_toList]
     have hl:=(List.getElem?_eq_some_iff.1 hi).1
     have:(cur.toList.take ((bytesW ws).length*1))[i]?=some (.int .u8 x):=by rw[q7,List.getElem?_map,hi];rfl
     rw[List.getElem?_take,if_pos (by omega)] at this
     exact this
   obtain⟨p,c,hv,hb,hc⟩:=hfin
   exact⟨p,c,congrArg Ending.returned hv,hb,hc,hbel⟩
theorem Image_z (m:Nat) (B:MB) (M:MemS) (w:World) (h:MemIs w m B M) (hr: ∀x∈M.image,0≤x∧x<18446744073709551616):
  Calls Tryz.prog 120 #[.pointer (some ⟨m,0,none⟩)] w fun e w'=> ∃p c,e= .returned (.slice p (bytesW M.image).length c)∧BytesIn w' p c (bytesW M.image)∧c≤maxLen∧Below w.heap.size w w':=by
 have HT:=hid (there_z m B M.view.length M.st h.pos w h.blk)
 have HB:=hid (fun cap=>bytes_z B.ib cap M.image w h.image (by rw[h.len];exact h.pos) (by rw[h.len];exact h.big) hr)
 have y1:w.cell? ⟨m,1,none⟩=some (.slice (some ⟨B.ib,0,none⟩) M.image.length B.ic):=by rw[h.len];exact h.blk.cell 1
 obtain⟨n,hn⟩: ∃n,n=M.image.length:=⟨_,rfl⟩
 rw[←hn] at y1 HB
 clear h hr hn
 go_enter Tryz.func120,Tryz.ntmps120
 go_wp2_with fail
 refine HT.out.mono ?_
 rintro e w1 ⟨rfl,rfl⟩
 go_wp2_with fail
 refine(HB.out _).mono ?_
 rintro e w2 ⟨p,c,rfl,h1,h2,h3⟩
 have HF:=hid (⟨h1,h2,h3⟩:_∧_∧_)
 clear h1 h2 h3
 go_wp2
 go_ret
 exact⟨p,c,rfl,HF.out.1,HF.out.2.1,HF.out.2.2⟩
end Go.Proofs.YtibiekfjbibpbaaGreat
