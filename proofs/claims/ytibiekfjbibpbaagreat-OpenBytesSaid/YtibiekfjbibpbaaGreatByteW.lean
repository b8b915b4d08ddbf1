/- Bytes of one's own: a word laid in them (the law's set); bytes copied. -/
import Derived.Test.YtibiekfjbibpbaaGreatBaseC
import Derived.Test.YtibiekfjbibpbaaGreatRefM
import Derived.Test.YtibiekfjbibpbaaGreatAppM
import Derived.Test.YtibiekfjbibpbaaGreatKit
import Derived.Laws.BytesString
import Derived.Laws.BytesArg
set_option maxRecDepth 100000
set_option maxHeartbeats 1000000
set_option linter.unusedVariables false
set_option linter.unusedSimpArgs false
namespace Go.Proofs.YtibiekfjbibpbaaGreat
open Go.RowKit
def byC (bs:List Int):Array Value:=(bs.map (Value.int .u8)).toArray
theorem byC_set (bs:List Int) (i:Nat) (x:Int):(byC bs).setIfInBounds i (.int .u8 x)=byC (bs.set i x):=by
 unfold byC
 simp[List.map_set]
theorem byC_get {bs:List Int} {i:Nat} {x:Int} (h:bs[i]?=some x):(byC bs)[i]?=some (.int .u8 x):=by
 simp[byC,h]
def putW (bs:List Int) (a x:Nat):List Int:=bs.take a++(List.range 8).map (byteN x)++bs.drop (a+8)
def putTo (bs:List Int) (a x i:Nat):List Int:=bs.take a++(List.range i).map (byteN x)++bs.drop (a+i)
theorem putTo_zero (bs:List Int) (a x:Nat):putTo bs a x 0=bs:=by unfold putTo;simp
theorem putTo_8 (bs:List Int) (a x:Nat):putTo bs a x 8=putW bs a x:=rfl
theorem putTo_len {bs:List Int} {a:Nat} (x:Nat) {i:Nat} (h:a+i≤bs.length):(putTo bs a x i).length=bs.length:=by
 unfold putTo
 simp
 omega
theorem putW_len {bs:List Int} {a:Nat} (x:Nat) (h:a+8≤bs.length):(putW bs a x).length=bs.length:=putTo_len x h
theorem putTo_next {bs:List Int} {a x i:Nat} (h:a+i<bs.length):(putTo bs a x i).set (a+i) (byteN x i)=putTo bs a x (i+1):=by
 unfold putTo
 have h1:(bs.take a++(List.range i).map (byteN x)).length=a+i:=by simp;omega
 rw[List.set_append_right _ _ (by omega),h1,Nat.sub_self,List.drop_eq_getElem_cons h,List.set_cons_zero,List.range_succ,List.map_append,←List.append_assoc,List.append_assoc _ _ (List.drop _ _)]
 rfl
theorem putTo_at {bs:List Int} {a x i:Nat} (h:a+i<bs.length): ∃y,(putTo bs a x i)[a+i]?=some y:=⟨_,List.getElem?_eq_getElem (by rw[putTo_len x (by omega)];exact h)⟩
theorem putW_byte {bs:List Int} (h: ∀x∈bs,0≤x∧x<256) (a x:Nat): ∀y∈putW bs a x,0≤y∧y<256:=by
 intro y hy
 unfold putW at hy
 rw[List.mem_append,List.mem_append] at hy
 rcases hy with(hy | hy) | hy
 ·exact h y (List.mem_of_mem_take hy)
 ·obtain⟨j,_,rfl⟩:=List.mem_map.1 hy
  exact byteN_le x j
 ·exact h y (List.mem_of_mem_drop hy)
def wdN (bs:List Int) (a:Nat):Int:=leW ((bs.drop a).take 8)
theorem putW_get {bs:List Int} {a x i:Nat} (h:a+8≤bs.length):(putW bs a x)[i]?=if i<a then bs[i]? else if i<a+8 then some (byteN x (i-a)) else bs[i]?:=by
 unfold putW
 by_cases h1:i<a
 ·rw[if_pos h1,List.append_assoc,List.getElem?_append_left (by simp;omega),List.getElem?_take,if_pos h1]
 ·rw[if_neg h1]
  by_cases h2:i<a+8
  ·rw[if_pos h2,List.getElem?_append_left (by simp;omega),List.getElem?_append_right (by simp;omega)]
   have e:i- (bs.take a).length=i-a:=by simp;omega
   rw[e,List.getElem?_map,List.getElem?_range (by omega)];rfl
  ·rw[if_neg h2,List.getElem?_append_right (by simp;omega),List.getElem?_drop]
   congr 1
   simp;omega
theorem wdN_same {bs:List Int} {a x:Nat} (h:a+8≤bs.length) (hx:x<18446744073709551616):wdN (putW bs a x) a=x:=by
 unfold wdN
 have:((putW bs a x).drop a).take 8=(List.range 8).map (byteN x):=by
  apply List.ext_getElem?
  intro j
  rw[List.getElem?_take]
  by_cases hj:j<8
  ·rw[if_pos hj,List.getElem?_drop,putW_get h,if_neg (by omega),if_pos (by omega),List.getElem?_map,List.getElem?_range hj,Nat.add_sub_cancel_left];rfl
  ·rw[if_neg hj,List.getElem?_eq_none (by simp;omega)]
 rw[this,leW_word hx]
theorem wdN_other {bs:List Int} {a b x:Nat} (h:a+8≤bs.length) (hb:b+8≤a∨a+8≤b):wdN (putW bs a x) b=wdN bs b:=by
 unfold wdN
 congr 1
 apply List.ext_getElem?
 intro j
 rw[List.getElem?_take,List.getElem?_take]
 by_cases hj:j<8
 ·rw[if_pos hj,if_pos hj,List.getElem?_drop,List.getElem?_drop,putW_get h]
  rcases hb with hb | hb
  ·rw[if_pos (by omega)]
  ·rw[if_neg (by omega),if_neg (by omega)]
 ·rw[if_neg hj,if_neg hj]
theorem bytesIn_blk {w:World} {g n:Nat} {bs:List Int} (h:Blk w g 5 (byC bs)) (hb: ∀x∈bs,0≤x∧x<256) (hn:bs.length≤n):BytesIn w (some ⟨g,0,none⟩) n bs:=
 ⟨hn,hb,fun _=>⟨g,0,rfl,h.lt,fun i x hx=>by rw[h.cell,Nat.zero_add];exact byC_get hx⟩⟩
theorem info_by:(Tryz.prog.info? 5).map (fun i=>(i.zero,i.size,i.bytes))=some (some (.int .u8 0),1,1):=by kernel_rfl
def ByArg (w:World) (v:Value) (bs:List Int):Prop:=
 (∀x∈bs,0≤x∧x<256)∧((v= .slice none 0 0∧bs=[])∨ ∃a cap,v= .slice (some a) bs.length cap∧bs.length≤cap∧cap≤maxLen∧(bs=[]∨ ∃b off,a=⟨b,off,none⟩∧b<w.heap.size∧ ∀i x,bs[i]?=some x→w.cell? ⟨b,off+i,none⟩=some (.int .u8 x)))
theorem ByArg.bel {w w':World} {v:Value} {bs:List Int} (h:ByArg w v bs) (hb:Below w.heap.size w w'):ByArg w' v bs:=by
 refine⟨h.1,?_⟩
 rcases h.2 with h | ⟨a,cap,h1,h2,h3,h4⟩
 ·exact Or.inl h
 ·refine Or.inr ⟨a,cap,h1,h2,h3,?_⟩
  rcases h4 with h4 | ⟨b,off,h4,h5,h6⟩
  ·exact Or.inl h4
  ·exact Or.inr ⟨b,off,h4,Nat.lt_of_lt_of_le h5 hb.size,fun i x hi=>(hb.cell (p:=⟨b,off+i,none⟩) h5).trans (h6 i x hi)⟩
theorem ByArg.form {w:World} {v:Value} {bs:List Int} (h:ByArg w v bs): ∃ao cap,v= .slice ao bs.length cap∧BytesIn w ao cap bs∧cap≤9223372036854775807:=by
 rcases h.2 with⟨rfl,rfl⟩ | ⟨a,cap,rfl,h2,h3,h4⟩
 ·exact⟨none,0,rfl,⟨Nat.le_refl _,h.1,fun hp=>by simp at hp⟩,by omega⟩
 ·refine⟨some a,cap,rfl,⟨h2,h.1,fun hp=> ?_⟩,by unfold maxLen at h3;omega⟩
  rcases h4 with h4 | ⟨b,off,rfl,h5,h6⟩
  ·rw[h4] at hp;simp at hp
  ·exact⟨b,off,rfl,h5,h6⟩
theorem app_zero (a:Addr) (c:Nat) (w:World):appRun2 Tryz.prog #[36,36] 36 #[.slice none 0 0,.slice (some a) 0 c] w= .ok (.slice none 0 0) w:=by kernel_rfl
theorem byCopy {w:World} {p:Option Addr} {cap:Nat} {bs:List Int} (h:ByArg w (.slice p bs.length cap) bs) (hl:bs.length≤1000000):
  ∃p' cap' w',appRun2 Tryz.prog #[36,36] 36 #[.slice none 0 0,.slice p bs.length cap] w= .ok (.slice p' bs.length cap') w'∧ByArg w' (.slice p' bs.length cap') bs∧(∀b off,p'=some ⟨b,off,none⟩→w.heap.size≤b)∧Below w.heap.size w w':=by
 obtain⟨i0,hi0,hz0,hz1,hz2⟩:=info_parts info_by
 rcases h.2 with⟨e,hb⟩ | ⟨a,cap',e,h2,h3,h4⟩
 ·subst hb
  injection e with e1 _ e3
  subst e1 e3
  have hr:=run_append_owned_none (P:=Tryz.prog) w w.heap.size 36 36 5 i0 1 Tryz.underlying36 hi0 (.slice none 0 0) 0 [] (World.ownsRow_nil _ _ _ _)
  exact⟨none,0,w,hr,⟨h.1,Or.inl ⟨rfl,rfl⟩⟩,(fun b off e=>by cases e),Below.refl _ _⟩
 ·injection e with e1 _ e3
  subst e1 e3
  rcases h4 with hb | ⟨b,off,rfl,h5,h6⟩
  ·subst hb
   exact⟨none,0,w,app_zero _ _ _,⟨h.1,Or.inl ⟨rfl,rfl⟩⟩,(fun b off e=>by cases e),Below.refl _ _⟩
  ·obtain⟨v',w',q⟩:=run_app (P:=Tryz.prog) w w.heap.size 36 36 5 i0 (.int .u8 0) 1 1 Tryz.underlying36 hi0 hz0 hz1 hz2 rfl (by decide) (.slice none 0 0) 0 [] (World.ownsRow_nil _ _ _ _) (.slice (some ⟨b,off,none⟩) bs.length cap) bs.length (bs.map (Value.int .u8)) (Or.inr ⟨b,off,_,rfl,fun j u hj=>by
    rw[List.getElem?_map] at hj
    obtain⟨x,hx,rfl⟩:=Option.map_eq_some_iff.1 hj
    exact h6 j x hx⟩) (by simp) (by
    intro u hu
    obtain⟨y,_,rfl⟩:=List.mem_map.1 hu
    rfl) (by unfold maxLen;omega) (by omega) (Nat.le_refl _)
   have ho:Only [] w w':=Only.of_grown q.grown (fun k hk=>by simp[Value.ownBlock] at hk)
   have hown:=q.own
   rw[Nat.zero_add,List.nil_append] at hown
   have hrun:=q.run
   rcases hown.2 with⟨rfl,h7⟩ | ⟨g,cap',cur,rfl,h7,h8,h9,h10,h11,h12⟩
   ·have hb0:bs=[]:=List.length_eq_zero_iff.1 h7
    subst hb0
    exact⟨none,0,w',hrun,⟨h.1,Or.inl ⟨rfl,rfl⟩⟩,(fun b off e=>by cases e),ho.below (by simp) (Nat.le_refl _)⟩
   ·refine⟨some ⟨g,0,none⟩,cap',w',hrun,⟨h.1,Or.inr ⟨_,_,rfl,h9,h10,Or.inr ⟨g,0,rfl,(Array.getElem?_eq_some_iff.1 h8).1,fun i x hi=> ?_⟩⟩⟩,fun b off e=> ?_,ho.below (by simp) (Nat.le_refl _)⟩
    ·have hc:Blk w' g _ cur:=h8
     rw[hc.cell,Nat.zero_add,←Array.getElem?_toList]
     have hl:=(List.getElem?_eq_some_iff.1 hi).1
     have:(cur.toList.take (bs.length*1))[i]?=some (.int .u8 x):=by rw[h12,List.getElem?_map,hi];rfl
     rw[List.getElem?_take,if_pos (by omega)] at this
     exact this
    ·injection e with e
     injection e with e
     omega
theorem by_conv {w:World} {p:Option Addr} {cap:Nat} {bs:List Int} (h:ByArg w (.slice p bs.length cap) bs):(convert 36 9 (.slice p bs.length cap)).run Tryz.prog w= .ok (.string (strOfNums bs)) w:=by
 by_cases h0:bs=[]
 ·subst h0
  rw[List.length_nil,run_convert_bytes_string (P:=Tryz.prog) w 36 9 5 p 0 cap Tryz.underlying36 Tryz.underlying5 Tryz.underlying9]
  cases p<;>simp[Conv.bytesToString,loadCells]
  all_goals rfl
 ·rcases h.2 with⟨_,hb⟩ | ⟨a,cap',e,h2,h3,h4⟩
  ·exact absurd hb h0
  ·injection e with e1 _ e3
   subst e1 e3
   obtain⟨b,off,rfl,h5,h6⟩:=h4.resolve_left h0
   refine run_convert_bytes_arg (P:=Tryz.prog) w 36 5 Tryz.underlying36 Tryz.underlying5 b off bs.length cap bs rfl (fun i hi=> ?_) 9 Tryz.underlying9
   rw[List.getD_eq_getElem?_getD,List.getElem?_eq_getElem hi]
   exact h6 i _ (List.getElem?_eq_getElem hi)
structure StW (w:World) (g bx:Nat) (bs:List Int) (a x i:Nat) (W:World):Prop where
 by':Blk W g 5 (byC (putTo bs a x i))
 box: ∀j,j<8→W.cell? ⟨bx,j,none⟩=some (.int .u8 (byteN x j))
 only:Only [g] w W
 lt:w.heap.size≤bx∧bx<W.heap.size
theorem SetW_z (g n cap:Nat) (bs:List Int) (a x:Nat) (hx:x<18446744073709551616) (hn:n=bs.length) (ha:a+8≤bs.length) (hl:bs.length≤1000000) (w:World) (h:Blk w g 5 (byC bs)):
  Calls Tryz.prog 21 #[.slice (some ⟨g,0,none⟩) n cap,.int .i64 (a:Int),.int .u64 (x:Int)] w fun e w'=>e= .returned (.tuple #[])∧Blk w' g 5 (byC (putW bs a x))∧Only [g] w w':=by
 have PT:=hid (Put_r x hx w)
 have HN:=hid (⟨hn,ha,hl⟩:_∧_∧_)
 have H:=hid h
 clear hn ha hl h hx
 go_enter Tryz.func21,Tryz.ntmps21
 go_wp2_with fail
 refine PT.out.mono ?_
 rintro e w1 ⟨rfl,hb1⟩
 obtain⟨W2,hW2⟩: ∃W2,W2=w1.alloc (.cells #[.int .u8 (byteN x 0),.int .u8 (byteN x 1),.int .u8 (byteN x 2),.int .u8 (byteN x 3),.int .u8 (byteN x 4),.int .u8 (byteN x 5),.int .u8 (byteN x 6),.int .u8 (byteN x 7)] 170):=⟨_,rfl⟩
 obtain⟨bx,hbx⟩: ∃bx,bx=w1.heap.size:=⟨_,rfl⟩
 have hb2:Below w1.heap.size w1 W2:=by rw[hW2];exact ba (Below.refl _ _) _
 have k6:Blk W2 bx 170 #[.int .u8 (byteN x 0),.int .u8 (byteN x 1),.int .u8 (byteN x 2),.int .u8 (byteN x 3),.int .u8 (byteN x 4),.int .u8 (byteN x 5),.int .u8 (byteN x 6),.int .u8 (byteN x 7)]:=by rw[hW2,hbx];exact Blk.new _ _ _
 have HI0:Hid (StW w g bx bs a x 0 W2):=by
  have hb:=hb1.trans (hb2.mono hb1.size)
  refine hid ⟨by rw[putTo_zero];exact H.out.bel hb,fun j hj=> ?_,Only.of_below hb _,by have:=hb1.size;omega,k6.lt⟩
  rw[k6.cell]
  rcases(by omega:j=0∨j=1∨j=2∨j=3∨j=4∨j=5∨j=6∨j=7) with rfl | rfl | rfl | rfl | rfl | rfl | rfl | rfl<;>rfl
 have HW2:=hid hW2
 have HBX:=hid hbx
 clear hb1 hb2 k6 hW2 hbx
 unfold putV
 go_wp2
 rw[←HW2.out,←HBX.out]
 go_loopw [7] (fun iv wr=> ∃i:Nat,i≤8∧iv= .int .i64 (i:Int)∧Hid (StW w g bx bs a x i wr)) (fun iv _=>8- (intOf iv).toNat)
 case atStart=>exact⟨0,Nat.zero_le _,rfl,HI0⟩
 case round=>
  obtain⟨i,hi,rfl,hI⟩:=hrel
  obtain⟨wA,rfl⟩: ∃y,y=wr:=⟨_,rfl⟩
  have i0:(0:Int)≤(i:Int):=by omega
  by_cases hi8:i<8
  ·have i1:(i:Int)<8:=by omega
   obtain⟨y,hy⟩:=putTo_at (bs:=bs) (a:=a) (x:=x) (i:=i) (by have:=HN.out.2.1;omega)
   have cg:wA.cell? ⟨g,a+i,none⟩=some (.int .u8 y):=(hI.out.by'.cell (a+i)).trans (byC_get hy)
   have fg:=hI.out.by'.frozen (a+i)
   have cb:=hI.out.box i hi8
   have wa:IntKind.i64.wrap ((a:Int)+(i:Int))=((a+i:Nat):Int):=by
    rw[IntWalk.i64_in _ (by have:=HN.out;constructor<;>omega)];omega
   have hN:Hid (StW w g bx bs a x (i+1) (wA.setCell ⟨g,a+i,none⟩ (.int .u8 (byteN x i)))):=by
    have o:Only [g] wA (wA.setCell ⟨g,a+i,none⟩ (.int .u8 (byteN x i))):=(Only.refl _ _).setCell (Or.inl (by simp)) _
    have hg:=H.out.lt
    have hl:=hI.out.lt
    have hb:=hI.out.by'.set_ (a+i) (.int .u8 (byteN x i))
    rw[byC_set,putTo_next (by have:=HN.out.2.1;omega)] at hb
    refine hid ⟨hb,fun j hj=>(o.cell (p:=⟨bx,j,none⟩) hl.2 (by simp;omega)).trans (hI.out.box j hj),hI.out.only.trans o (fun _ h=>Or.inl h),hl.1,Nat.lt_of_lt_of_le hl.2 o.size⟩
   have a0:(0:Int)≤((a+i:Nat):Int):=by omega
   have a1:((a+i:Nat):Int)< (n:Int):=by have:=HN.out;omega
   obtain⟨q,hq⟩: ∃q,q=a+i:=⟨_,rfl⟩
   rw[←hq] at cg fg wa hN a0 a1
   have HI8:=hid hi8
   clear hy hq hi8 hi hI
   go_wp2
   go_roundw
   case rel=>exact⟨i+1,HI8.out,by go_num,hN⟩
   case measure=>simp[intOf];have:=HI8.out;omega
  ·obtain rfl:i=8:=by omega
   have i1: ¬((8:Nat):Int)<8:=by omega
   clear hi hi8
   go_wp2
   refine bodyPost_end (v:= .tuple #[]) (by simp[results,Tryz.results21,go_sem]) rfl ?_
   exact⟨rfl,by have:=hI.out.by';rw[putTo_8] at this;exact this,hI.out.only⟩
end Go.Proofs.YtibiekfjbibpbaaGreat
