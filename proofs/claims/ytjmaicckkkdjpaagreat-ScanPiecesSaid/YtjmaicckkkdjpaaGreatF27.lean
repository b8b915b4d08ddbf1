import Derived.ArgAppend
import Derived.Test.YtjmaicckkkdjpaaGreatF26
import Derived.Deep.Cut
import Derived.Lib.MinMax
import Derived.Maps.RangeRun
import Derived.Laws.Externs
/- A memory of words: a store comes to a line's row: in place, or in a new one. -/
set_option maxRecDepth 100000
set_option maxHeartbeats 2000000
set_option linter.unusedVariables false
set_option linter.unusedSimpArgs false
namespace Go.Proofs.YtjmaicckkkdjpaaGreat
open Go.RowKit
theorem RowP.cells {w:World} {L:LineA} (h:RowP w L): ∀j u,(putC2 L.ps)[j]?=some u→w.cell? ((⟨L.g,L.o,none⟩:Addr).add j)=some u:=by
 obtain⟨cur,h1,h2,h3,h4⟩:=h
 rw[←h4]
 exact cells_of_blk h1 L.o _
section
section
variable {P:Program}
end
theorem nodup_mid {α:Type} {pre post:List α} {x y:α} (h:(pre++x::post).Nodup) (hy: ∀z∈pre++x::post,z≠y):(pre++y::post).Nodup:=by
 rw[List.nodup_append,List.nodup_cons] at h ⊢
 refine⟨h.1,⟨fun hm=>hy y (by simp[hm]) rfl,h.2.1.2⟩,fun a ha b hb=> ?_⟩
 rcases List.mem_cons.1 hb with rfl | hb
 ·exact hy a (by simp[ha])
 ·exact h.2.2 a ha b (List.mem_cons_of_mem _ hb)
theorem MemIs.relineG {w1 w':World} {m:Nat} {B:MB} {M:MemS} {pre post:List LineA} {L L':LineA}
  (blk:Blk w1 m 124 (memC B M.view.length M.st)) (pos:0<M.view.length) (big:M.view.length≤131072) (len:M.image.length=M.view.length) (view:WrdsAt w1 B.vb M.view) (image:WrdsAt w1 B.ib M.image)
  (map:w1.heap[B.lb]?=some (.map (M.lines.map lineE).toArray M.clock)) (rows: ∀x∈pre++post,RowP w1 x) (row:RowP w1 L') (ok: ∀x∈M.lines,LineOK M.view.length x) (ok':LineOK M.view.length L')
  (keys:M.lines.Pairwise fun a b=>a.adr≠b.adr) (born:M.lines.Pairwise fun a b=>a.born≠b.born) (old: ∀x∈M.lines,x.born<M.clock) (apart:(footM m B M).Nodup)
  (hM:M.lines=pre++L::post) (ha:L'.adr=L.adr) (hb:L'.born=L.born) (hg:L'.g=L.g∨ ∀k∈footM m B M,k≠L'.g)
  (hw:w'=w1.putObj B.lb (.map ((pre++L'::post).map lineE).toArray M.clock)):MemIs w' m B { M with lines:=pre++L'::post }:=by
 have hfar:m≠B.lb∧B.vb≠B.lb∧B.ib≠B.lb∧ ∀L∈M.lines,L.g≠B.lb:=by
  have h1:=apart
  simp only[footM,List.nodup_cons,List.mem_cons,not_or,List.mem_map,not_exists,not_and] at h1
  exact⟨h1.1.2.2.1,h1.2.1.2.1,h1.2.2.1.1,fun L hL=>h1.2.2.2.1 L hL⟩
 obtain⟨f0,f1,f2,f3⟩:=hfar
 have hL:L∈M.lines:=by rw[hM];simp
 have f4:L'.g≠B.lb:=by
  rcases hg with h | h
  ·rw[h];exact f3 L hL
  ·exact(h B.lb (by simp[footM])).symm
 have ho:Only [B.lb] w1 w':=by rw[hw];exact(Only.refl _ _).putObj (Or.inl (by simp)) _
 have mem: ∀{p:LineA→Prop},(∀x∈M.lines,p x)→p L'→ ∀x∈pre++L'::post,p x:=by
  intro p h1 h2 x hx
  rw[hM] at h1
  rcases List.mem_append.1 hx with hx | hx
  ·exact h1 x (List.mem_append_left _ hx)
  ·rcases List.mem_cons.1 hx with rfl | hx
   ·exact h2
   ·exact h1 x (List.mem_append_right _ (List.mem_cons_of_mem _ hx))
 have hmem: ∀x∈pre++post,x∈M.lines:=by
  intro x hx
  rw[hM]
  rcases List.mem_append.1 hx with hx | hx
  ·exact List.mem_append_left _ hx
  ·exact List.mem_append_right _ (List.mem_cons_of_mem _ hx)
 exact{
  blk:=ho.blk blk (by simpa using f0)
  pos:=pos
  big:=big
  len:=len
  view:=view.only ho (by simpa using f1)
  image:=image.only ho (by simpa using f2)
  map:=by rw[hw];exact putObj_at map
  rows:=by
   intro x hx
   rcases List.mem_append.1 hx with hx | hx
   ·exact(rows x (List.mem_append_left _ hx)).only ho (by simpa using f3 x (hmem x (List.mem_append_left _ hx)))
   ·rcases List.mem_cons.1 hx with rfl | hx
    ·exact row.only ho (by simpa using f4)
    ·exact(rows x (List.mem_append_right _ hx)).only ho (by simpa using f3 x (hmem x (List.mem_append_right _ hx)))
  ok:=mem ok ok'
  keys:=by have:=keys;rw[hM] at this;exact pairwise_mid (R:=fun a b=>a≠b) (fun x:LineA=>x.adr) ha.symm this
  born:=by have:=born;rw[hM] at this;exact pairwise_mid (R:=fun a b=>a≠b) (fun x:LineA=>x.born) hb.symm this
  old:=mem (p:=fun x=>x.born<M.clock) old (by rw[hb];exact old L hL)
  apart:=by
   have e1:footM m B M=(m::B.vb::B.ib::B.lb::pre.map (·.g))++L.g::post.map (·.g):=by simp only[footM,hM,List.map_append,List.map_cons,List.cons_append]
   have e2:footM m B { M with lines:=pre++L'::post }=(m::B.vb::B.ib::B.lb::pre.map (·.g))++L'.g::post.map (·.g):=by simp only[footM,List.map_append,List.map_cons,List.cons_append]
   rw[e2]
   rcases hg with h | h
   ·rw[h,←e1];exact apart
   ·rw[e1] at apart h;exact nodup_mid apart h }
end
def applyPuts (im:List Int) (ps:List (Nat×Int)):List Int:=ps.foldl (fun im p=>im.set (p.1/8) p.2) im
theorem applyPuts_length (im:List Int) (ps:List (Nat×Int)):(applyPuts im ps).length=im.length:=by
 induction ps generalizing im with
 | nil=>rfl
 | cons p ps ih=>exact(ih _).trans List.length_set
theorem applyPuts_snoc (im:List Int) (ps:List (Nat×Int)) (p:Nat×Int):applyPuts im (ps++[p])=(applyPuts im ps).set (p.1/8) p.2:=by simp[applyPuts]
def cutL (L:LineA) (k:Nat):LineA:={ L with o:=L.o+k*2,cap:=L.ps.length-k,ps:=L.ps.drop k,ks:=L.ks.map (· -k) }
def lastM (M:MemS) (pre:List LineA) (L:LineA) (post:List LineA) (k:Nat):MemS:=
 { M with image:=applyPuts M.image (L.ps.take k),lines:=pre++(if k=L.ps.length then[] else[cutL L k])++post }
def lineX (Pt:Option Addr) (r:Nat) (ks:List Nat):Array Value:=(Value.slice Pt r r::marksC ks).toArray
theorem lineX_of (L:LineA) (Pt:Option Addr) (r:Nat):(lineC L).setIfInBounds 0 (.slice Pt r r)=lineX Pt r L.ks:=by simp[lineC,lineX]
theorem lineX_mark {Pt:Option Addr} {r:Nat} {ks:List Nat} {c:Nat} (k:Nat):(lineX Pt r ks).setIfInBounds (c+1) (.int .i64 (k:Int))=lineX Pt r (ks.set c k):=by
 unfold lineX marksC
 rw[List.setIfInBounds_toArray,List.set_cons_succ,List.map_set]
def mixK (ks:List Nat) (k j:Nat):List Nat:=(ks.take j).map (· -k)++ks.drop j
theorem mixK_get {ks:List Nat} {k j a:Nat} (h:ks[j]?=some a):(mixK ks k j)[j]?=some a:=by
 have hl:j<ks.length:=(List.getElem?_eq_some_iff.1 h).1
 unfold mixK
 rw[List.getElem?_append_right (by simp;omega)]
 simp[Nat.min_eq_left (Nat.le_of_lt hl),h]
theorem mixK_set {ks:List Nat} {k j a:Nat} (h:ks[j]?=some a):(mixK ks k j).set j (a-k)=mixK ks k (j+1):=by
 obtain⟨hl,he⟩:=List.getElem?_eq_some_iff.1 h
 unfold mixK
 rw[List.set_append_right _ _ (by simp;omega),List.drop_eq_getElem_cons hl,List.take_succ_eq_append_getElem hl]
 simp[Nat.min_eq_left (Nat.le_of_lt hl),he]
theorem mixK_all {ks:List Nat} {k j:Nat} (h:ks.length≤j):mixK ks k j=ks.map (· -k):=by
 unfold mixK
 rw[List.take_of_length_le h,List.drop_eq_nil_of_le h,List.append_nil]
theorem MemIs.img {w w':World} {m X:Nat} {B:MB} {M:MemS} (h:MemIs w m B M) (ho:Only [B.ib,X] w w') (hX: ∀k∈footM m B M,k≠X) {im:List Int} (hi:WrdsAt w' B.ib im) (hl:im.length=M.view.length):MemIs w' m B { M with image:=im }:=by
 have h1:=h.apart
 simp only[footM,List.nodup_cons,List.mem_cons,not_or,List.mem_map,not_exists,not_and] at h1
 have g: ∀k∈footM m B M,k≠B.ib→k∉ [B.ib,X]:=fun k hk hne hm=>by
  simp at hm
  rcases hm with e | e
  ·exact hne e
  ·exact hX k hk e
 have hLf: ∀L∈M.lines,L.g∈footM m B M:=fun L hL=>by simp only[footM,List.mem_cons,List.mem_map];exact Or.inr (Or.inr (Or.inr (Or.inr ⟨L,hL,rfl⟩)))
 exact{ h with
  blk:=ho.blk h.blk (g m (by simp[footM]) h1.1.2.1)
  len:=hl
  view:=h.view.only ho (g B.vb (by simp[footM]) h1.2.1.1)
  image:=hi
  map:=(ho.block _ (h.foot_lt _ (by simp[footM])) (g B.lb (by simp[footM]) (fun e=>h1.2.2.1.1 e.symm))).trans h.map
  rows:=fun L hL=>(h.rows L hL).only ho (g L.g (hLf L hL) (h1.2.2.1.2 L hL)) }
theorem MemIs.dropL {w w':World} {m:Nat} {B:MB} {M:MemS} {pre post:List LineA} {L:LineA} (h:MemIs w m B M) (hM:M.lines=pre++L::post)
  (hw:w'=w.putObj B.lb (.map ((pre++post).map lineE).toArray M.clock)):MemIs w' m B { M with lines:=pre++post }:=by
 obtain⟨f0,f1,f2,f3⟩:=h.lb_far
 have ho:Only [B.lb] w w':=by rw[hw];exact(Only.refl _ _).putObj (Or.inl (by simp)) _
 have hs:List.Sublist (pre++post) M.lines:=by rw[hM];exact List.Sublist.append_left (List.sublist_cons_self ..) _
 have mem: ∀x∈pre++post,x∈M.lines:=fun x hx=>hs.subset hx
 exact{ h with
  blk:=ho.blk h.blk (by simpa using f0)
  view:=h.view.only ho (by simpa using f1)
  image:=h.image.only ho (by simpa using f2)
  map:=by rw[hw];exact putObj_at h.map
  rows:=fun x hx=>(h.rows x (mem x hx)).only ho (by simpa using f3 x (mem x hx))
  ok:=fun x hx=>h.ok x (mem x hx)
  keys:=h.keys.sublist hs
  born:=h.born.sublist hs
  old:=fun x hx=>h.old x (mem x hx)
  apart:=h.apart.sublist (by
   simp only[footM]
   exact((((hs.map _).cons_cons _).cons_cons _).cons_cons _).cons_cons _) }
theorem putC2_drop: ∀(ps:List (Nat×Int)) (k:Nat),putC2 (ps.drop k)=(putC2 ps).drop (k*2)
 | [],k=>by simp[putC2]
 | p::ps,0=>by simp
 | p::ps,k+1=>by
  have e:putC2 (p::ps)= .int .u64 (p.1:Int):: .int .u64 p.2::putC2 ps:=rfl
  rw[e,List.drop_succ_cons,putC2_drop ps k,show(k+1)*2=k*2+1+1 by omega,List.drop_succ_cons,List.drop_succ_cons]
theorem RowP.cut {w:World} {L:LineA} (h:RowP w L) (k:Nat) (hk:k≤L.ps.length):RowP w (cutL L k):=by
 obtain⟨cur,h1,h2,h3,h4⟩:=h
 refine⟨cur,h1,by simp[cutL],by simp only[cutL];omega,?_⟩
 have e:putC2 (L.ps.drop k)=(putC2 L.ps).drop (k*2):=putC2_drop L.ps k
 simp only[cutL]
 rw[e,←h4,List.drop_take,List.drop_drop]
 congr 1
 simp;omega
theorem LineOK.cut {n:Nat} {L:LineA} (h:LineOK n L) (k:Nat) (hk:k<L.ps.length):LineOK n (cutL L k):=by
 refine⟨h.adr,fun hc=> ?_,fun p hp=>h.puts p (List.mem_of_mem_drop hp),by simp[cutL,h.marks],fun q hq=> ?_⟩
 ·have:=congrArg List.length hc
  simp[cutL] at this
  omega
 ·simp only[cutL,List.mem_map] at hq
  obtain⟨y,hy,rfl⟩:=hq
  have:=h.most y hy
  simp[cutL];omega
theorem lineX_cut {L:LineA} {k:Nat}:lineX (some ⟨L.g,L.o+k*2,none⟩) (L.ps.length-k) (L.ks.map (· -k))=lineC (cutL L k):=by simp[lineX,lineC,cutL]
theorem erase_mid {α:Type} (x:α) (post:List α): ∀pre:List α,(pre++x::post).eraseIdx pre.length=pre++post
 | []=>by simp
 | p::pre=>by simp[erase_mid x post pre]
theorem add_off (g o j:Nat):(⟨g,o,none⟩:Addr).add j=⟨g,o+j,none⟩:=by unfold Addr.add;split<;>simp_all
theorem putC2_get: ∀{ps:List (Nat×Int)} {k:Nat} (h:k<ps.length),(putC2 ps)[k*2]?=some (.int .u64 (ps[k].1:Int))∧(putC2 ps)[k*2+1]?=some (.int .u64 ps[k].2)
 | p::ps,0,h=>by simp[putC2]
 | p::ps,k+1,h=>by
  have:=putC2_get (ps:=ps) (k:=k) (by simpa using h)
  have e:putC2 (p::ps)= .int .u64 (p.1:Int):: .int .u64 p.2::putC2 ps:=rfl
  rw[e,show(k+1)*2=k*2+1+1 by omega]
  simpa using this
theorem last_some (m:Nat) (B:MB) (M:MemS) (n0 n:Nat) (pre post:List LineA) (L:LineA) (hM:M.lines=pre++L::post) (hlen:L.ps.length≤1000000000) (hn0:(n0:Int)<9223372036854775808) (hn:n=min n0 L.ps.length) (w:World) (h:MemIs w m B M):
  Calls Tryz.prog 85 #[ptrV m,.int .u64 (L.adr:Int),.int .i64 (n0:Int)] w fun e w'=>
   e= .returned (.int .i64 (n:Int))∧MemIs w' m B (lastM M pre L post n)∧Only [B.ib,B.lb] w w':=by
 have hL:L∈M.lines:=by rw[hM];simp
 have hok:=h.ok L hL
 have x2:w.cell? ⟨m,2,none⟩=some (.map (some B.lb)):=h.blk.cell 2
 have a378:=line_isAgg
 obtain⟨N,hN⟩: ∃N,N=66:=⟨_,rfl⟩
 have z378:=line_zero
 have s378: ∀w,(sizeOf 143).run Tryz.prog w= .ok N w:=by rw[hN];exact line_sizeOf
 have n378:lineZ.size=N:=lineZ_size.trans hN.symm
 have n2:(lineC L).size=N:=(lineC_size hok).trans hN.symm
 have hlk:(Instr.lookup 120 (.map (some B.lb)) (.int .u64 (L.adr:Int)) false).run Tryz.prog w= .ok (.agg (lineC L)) w:=
  run_lookU_some (P:=Tryz.prog) w 120 62 143 Tryz.underlying120 Tryz.underlying62 B.lb _ _ h.map (L.adr:Int) pre.length (.agg (lineC L)) false (by simpa using find_line hM h.keys)
 have hst:(storeCells ⟨w.heap.size,0,none⟩ (lineC L).toList 0).run Tryz.prog (w.alloc (.cells lineZ 143))= .ok () (w.alloc (.cells (lineC L) 143)):=
  run_storeCells_new (P:=Tryz.prog) w 143 lineZ (lineC L) (by rw[line_size,lineC_size hok]) (by rw[lineC_size hok];rfl) (lineC_one L)
 have b2:=Blk.new w 143 (lineC L)
 have H2:=hid (h.only ((Only.refl [] w).alloc (.cells (lineC L) 143)) (fun k _ hk=>by cases hk))
 have O2:=hid (show Only [] w (w.alloc (.cells (lineC L) 143)) from(Only.refl [] w).alloc _)
 have N3:=hid (show ∀k∈footM m B M,k≠w.heap.size from fun k hk e=>by have:=h.foot_lt k hk;omega)
 obtain⟨ln,hln⟩: ∃ln,ln=L.ps.length:=⟨_,rfl⟩
 have HLN:=hid hln
 have HN:=hid hN
 have HM:=hid hM
 have HMIN:=hid hn
 have z0:(w.alloc (.cells (lineC L) 143)).cell? ⟨w.heap.size,0,none⟩=some (.slice (some ⟨L.g,L.o,none⟩) ln L.cap):=by rw[hln];exact b2.cell 0
 rw[←hln] at hlen
 have B2:=hid b2
 have hmin:min (n0:Int) (ln:Int)=(n:Int):=by omega
 obtain⟨cur,hc1,hc2,hc3,hc4⟩:=id (h.rows L hL)
 rw[←hln] at hc2
 have i1:(0:Int)≤(n:Int):=by omega
 have i2:(n:Int)≤(L.cap:Int):=by omega
 have i2':n≤L.cap:=by omega
 have i3:n≤ln:=by omega
 have i4:(n:Int)≤(ln:Int):=by omega
 have i5:(ln:Int)≤(L.cap:Int):=by omega
 have i6:(0:Int)≤(ln:Int):=by omega
 have i7:ln≤L.cap:=by omega
 clear hc1 hc2 hc3 hc4
 clear h hM hN hln hn b2 hok hL
 go_enter Tryz.func85,Tryz.ntmps85
 go_wp2
 obtain⟨X,hX⟩: ∃X,X=w.heap.size:=⟨_,rfl⟩
 obtain⟨W2,hW2⟩: ∃W2,W2=w.alloc (.cells (lineC L) 143):=⟨_,rfl⟩
 rw[←hX] at z0
 rw[←hW2] at z0
 have N3':Hid (∀k∈footM m B M,k≠X):=by rw[hX];exact N3
 have H2':Hid (MemIs W2 m B M):=by rw[hW2];exact H2
 have O2':Hid (Only [] w W2):=by rw[hW2];exact O2
 have B2':Hid (Blk W2 X 143 (lineC L)):=by rw[hW2,hX];exact B2
 have HX:=hid hX
 rw[←hX,←hW2]
 clear hW2 hX B2 N3 H2 O2 z0 hlk hst x2
 have lg:L.g≠B.ib:=by
  have h1:=H2'.out.apart
  have e1:footM m B M=(m::B.vb::B.ib::B.lb::pre.map (·.g))++L.g::post.map (·.g):=by simp only[footM,HM.out,List.map_append,List.map_cons,List.cons_append]
  rw[e1,List.nodup_append] at h1
  exact fun hc=>h1.2.2 B.ib (by simp) L.g (List.mem_cons_self ..) hc.symm
 have mib:m≠B.ib∧B.ib≠B.lb:=by
  have h1:=H2'.out.apart
  simp only[footM,List.nodup_cons,List.mem_cons,not_or] at h1
  exact⟨h1.1.2.1,h1.2.2.1.1⟩
 have hLm:L∈M.lines:=by rw[HM.out];simp
 have OK:=hid (H2'.out.ok L hLm)
 obtain⟨ic,hic⟩: ∃ic,ic=B.ic:=⟨_,rfl⟩
 obtain⟨vl,hvl⟩: ∃vl,vl=M.view.length:=⟨_,rfl⟩
 have HVL:=hid hvl
 have LG:=hid lg
 have MIB:=hid mib
 have LM:=hid hLm
 have HMN:=hid hmin
 clear lg mib hLm hic hvl hmin
 go_loopw [27] (fun i wr=> ∃k:Nat,k≤n∧i= .int .i64 k∧Hid (WrdsAt wr B.ib (applyPuts M.image (L.ps.take k)))∧Hid (Only [B.ib] W2 wr)) (fun i _=>(n- (intOf i).toNat))
 case atStart=>exact⟨0,by omega,rfl,H2'.out.image,Only.refl _ _⟩
 case round=>
  obtain⟨k,hk,rfl,hIm,hO⟩:=hrel
  by_cases hlt:k<n
  ·have hkl:k<L.ps.length:=by have:=HLN.out;omega
   obtain⟨q,v,hp⟩: ∃q v,L.ps[k]=(8*q,v)∧q<vl:=by
    have h1:=OK.out.puts L.ps[k] (List.getElem_mem hkl)
    refine⟨L.ps[k].1/8,L.ps[k].2,?_,by rw[HVL.out];exact h1.2.1⟩
    refine Prod.ext ?_ rfl
    show _=8*_
    omega
   obtain⟨hp,hq⟩:=hp
   have hT:=hid (show applyPuts M.image (L.ps.take (k+1))=(applyPuts M.image (L.ps.take k)).set q v by rw[List.take_succ_eq_append_getElem hkl,applyPuts_snoc,hp];simp)
   have hrow:RowP wr L:=(H2'.out.rows L LM.out).only hO.out (by simpa using LG.out)
   have y0:wr.cell? ⟨L.g,L.o+k*2,none⟩=some (.int .u64 (8*(q:Int))):=by
    have:=hrow.cells (k*2) (.int .u64 ((8*q:Nat):Int)) (by have:=putC2_get hkl;rw[hp] at this;exact this.1)
    rwa[add_off] at this
   have y1:wr.cell? ⟨L.g,L.o+k*2+1,none⟩=some (.int .u64 v):=by
    have:=hrow.cells (k*2+1) (.int .u64 v) (by have:=putC2_get hkl;rw[hp] at this;exact this.2)
    rwa[add_off,←Nat.add_assoc] at this
   have hb:Blk (wr.alloc (.cells #[.int .u64 (8*(q:Int)),.int .u64 v] 72)) m 124 (memC B M.view.length M.st):=(hO.out.blk H2'.out.blk (by simpa using MIB.out.1)).alloc _
   have y2:(wr.alloc (.cells #[.int .u64 (8*(q:Int)),.int .u64 v] 72)).cell? ⟨m,1,none⟩=some (.slice (some ⟨B.ib,0,none⟩) vl B.ic):=by rw[HVL.out];exact hb.cell 1
   have hIm':WrdsAt (wr.alloc (.cells #[.int .u64 (8*(q:Int)),.int .u64 v] 72)) B.ib (applyPuts M.image (L.ps.take k)):=hIm.out.only ((Only.refl [] wr).alloc _) (fun h=>by cases h)
   have hql:q< (applyPuts M.image (L.ps.take k)).length:=by rw[applyPuts_length,H2'.out.len,←HVL.out];exact hq
   obtain⟨z,hz⟩: ∃z,(applyPuts M.image (L.ps.take k))[q]?=some z:=⟨_,List.getElem?_eq_getElem hql⟩
   have y3:=hIm'.cell hz
   have y4:=hIm'.frozen q
   have j1:(8*(q:Int))/8=q:=by omega
   have j2:(0:Int)≤q:=by omega
   have j6:IntKind.u64.wrap (q:Int)=q:=IntWalk.u64_in _ (by have:=HVL.out;have:=H2'.out.big;omega)
   have j3:(q:Int)< (vl:Int):=by omega
   have j4:(0:Int)≤k:=by omega
   have j5:(k:Int)< (n:Int):=by omega
   have HP:=hid hp
   clear hrow hb hIm' hp hql hz
   go_wp2
   go_region
   go_wp2
   have hIm2:Hid (WrdsAt ((wr.alloc (.cells #[.int .u64 (8*(q:Int)),.int .u64 v] 72)).setCell ⟨B.ib,q,none⟩ (.int .u64 v)).drew B.ib (applyPuts M.image (L.ps.take (k+1)))):=by
    rw[hT.out]
    exact((hIm.out.only ((Only.refl [] wr).alloc _) (fun h=>by cases h)).set_ q v).only ((Only.refl [] _).drew) (fun h=>by cases h)
   have hO2:Hid (Only [B.ib] W2 ((wr.alloc (.cells #[.int .u64 (8*(q:Int)),.int .u64 v] 72)).setCell ⟨B.ib,q,none⟩ (.int .u64 v)).drew):=((hO.out.alloc _).setCell (Or.inl (by simp)) _).drew
   clear hIm hO
   go_roundw
   case rel=>exact⟨k+1,by omega,by go_num,hIm2,hO2⟩
   case measure=>simp[intOf];omega
  ·obtain rfl:k=n:=by omega
   have b3:Blk wr X 143 (lineC L):=hO.out.blk B2'.out (by simpa using(N3'.out B.ib (by simp[footM])).symm)
   have z0:wr.cell? ⟨X,0,none⟩=some (.slice (some ⟨L.g,L.o,none⟩) ln L.cap):=by rw[HLN.out];exact b3.cell 0
   have zf:=b3.frozen 0
   have B3:=hid b3
   have HLT:Hid (k≤ln):=i3
   have HIM:=hid (show Only [B.ib] W2 wr from hO.out)
   clear b3 hk hlt hO
   go_upto_region 8 with(fail)
   repeat go_step
   generalize hPt:(if ln=k then some ({ block:=L.g,off:=L.o }:Addr) else some { block:=L.g,off:=L.o+k*2 })=Pt
   have HPT:=hid hPt
   clear hPt
   obtain⟨r,hr⟩: ∃r,r=ln-k:=⟨_,rfl⟩
   rw[←hr]
   obtain⟨W3,hW3⟩: ∃W3,W3=wr.setCell ⟨X,0,none⟩ (.slice Pt r r):=⟨_,rfl⟩
   rw[←hW3]
   have B4:Hid (Blk W3 X 143 (lineX Pt r L.ks)):=by rw[hW3,←lineX_of];exact B3.out.set_ 0 _
   have O3:Hid (Only [B.ib,X] W2 W3):=by
    rw[hW3]
    exact(HIM.out.mono (fun x hx=>by simp at hx;simp[hx])).setCell (Or.inl (by simp)) _
   have I3:Hid (WrdsAt W3 B.ib (applyPuts M.image (L.ps.take k))):=by
    rw[hW3]
    exact hIm.out.only ((Only.refl [X] wr).setCell (Or.inl (by simp)) _) (by simpa using(N3'.out B.ib (by simp[footM])))
   have HR:=hid hr
   have KL:=hid OK.out.marks
   clear hW3 hr z0 zf HIM hIm B3
   clear wr
   go_loopw [53] (fun i wr=> ∃j:Nat,j≤65∧i= .int .i64 j∧Hid (Blk wr X 143 (lineX Pt r (mixK L.ks k j)))∧Hid (Only [X] W3 wr)) (fun i _=>(65- (intOf i).toNat))
   case atStart=>exact⟨0,by omega,rfl,by simpa[mixK] using B4,Only.refl _ _⟩
   case round=>
    obtain⟨j,hj,rfl,hB,hO⟩:=hrel
    by_cases hlt:j<65
    ·obtain⟨a,ha⟩: ∃a,L.ks[j]?=some a:=⟨_,List.getElem?_eq_getElem (by rw[KL.out];exact hlt)⟩
     have hal:a≤ln:=by rw[HLN.out];exact OK.out.most a (List.mem_of_getElem? ha)
     have y0:wr.cell? ⟨X,1+j,none⟩=some (.int .i64 (a:Int)):=by
      rw[hB.out.cell,Nat.add_comm]
      simp[lineX,marksC,mixK_get ha]
     have y1:=hB.out.frozen (1+j)
     have hw:IntKind.i64.wrap ((a:Int)- (k:Int))=(a:Int)- (k:Int):=IntWalk.i64_in _ (by omega)
     have hmx:max ((a:Int)- (k:Int)) 0=((a-k:Nat):Int):=by omega
     have j1:(0:Int)≤j:=by omega
     have j2:(j:Int)<65:=by omega
     have HA:=hid ha
     clear ha
     obtain⟨wq,hwq⟩: ∃wq,wq=wr.setCell ⟨X,1+j,none⟩ (.int .i64 ((a-k:Nat):Int)):=⟨_,rfl⟩
     have hB2:Hid (Blk wq X 143 (lineX Pt r (mixK L.ks k (j+1)))):=by
      rw[hwq,Nat.add_comm,←mixK_set HA.out,←lineX_mark];exact hB.out.set_ (j+1) _
     have hO2:Hid (Only [X] W3 wq):=by rw[hwq];exact hO.out.setCell (Or.inl (by simp)) _
     have HWQ:=hid hwq
     clear hwq hB hO
     go_wp2
     go_roundw
     case rel=>exact⟨j+1,by omega,by go_num,by have:=hB2;rwa[HWQ.out] at this,by have:=hO2;rwa[HWQ.out] at this⟩
     case measure=>simp[intOf];omega
    ·obtain rfl:j=65:=by omega
     rw[mixK_all (by rw[KL.out];exact Nat.le_refl _)] at hB
     have z0:wr.cell? ⟨X,0,none⟩=some (.slice Pt r r):=hB.out.cell 0
     have h5:Hid (MemIs wr m B { M with image:=applyPuts M.image (L.ps.take k) }):=by
      have h4:=H2'.out.img O3.out N3'.out I3.out (by rw[applyPuts_length];exact H2'.out.len)
      exact h4.only hO.out (fun y hy hm=>N3'.out y hy (by simpa using hm))
     have O5:Hid (Only [B.ib,B.lb] w wr):=by
      have h1:Only [B.ib,X] W2 wr:=O3.out.trans hO.out (fun y hy=>Or.inl (by simp at hy;simp[hy]))
      refine(O2'.out.mono (g:=[B.ib,B.lb]) (fun y hy=>by cases hy)).trans h1 (fun y hy=> ?_)
      simp at hy
      rcases hy with rfl | rfl
      ·exact Or.inl (by simp)
      ·exact Or.inr (by rw[HX.out];exact Nat.le_refl _)
     have HB:=hid hB
     have yd: ∀W:World,W=wr∨W=wr.drew→W.cell? ⟨m,2,none⟩=some (.map (some B.lb)):=fun W hW=>by
      rcases hW with rfl | rfl
      ·exact h5.out.blk.cell 2
      ·exact h5.out.blk.drew.cell 2
     clear hlt hj hB hO I3 O3
     by_cases hfull:r=0
     ·have y2:=yd wr (Or.inl rfl)
      have hdel:(Builtin.delete_ #[120,62] 0 #[.map (some B.lb),.int .u64 (L.adr:Int)]).run Tryz.prog wr= .ok (.tuple #[]) (wr.putObj B.lb (.map ((pre++post).map lineE).toArray M.clock)):=by
       have:=run_delU (P:=Tryz.prog) wr 120 62 143 62 0 Tryz.underlying120 Tryz.underlying62 B.lb _ _ h5.out.map (L.adr:Int) pre.length (.agg (lineC L)) (by simpa using find_line HM.out H2'.out.keys)
       rw[this]
       congr 3
       apply Array.ext'
       rw[Array.toList_eraseIdxIfInBounds]
       simp only[HM.out,List.map_append,List.map_cons]
       rw[show pre.length=(pre.map lineE).length by simp,erase_mid]
      have HF:=hid hfull
      clear yd
      go_wp2
      go_ret
      refine⟨rfl,?_,O5.out.putObj (Or.inl (by simp)) _⟩
      have h6:=MemIs.dropL h5.out HM.out rfl
      have e:lastM M pre L post k={ M with image:=applyPuts M.image (L.ps.take k),lines:=pre++post }:=by
       unfold lastM
       rw[if_pos (by have:=HF.out;have:=HR.out;have:=HLN.out;have:=HLT.out;omega)]
       simp
      rw[e]
      simpa only[List.map_append] using h6
     ·have e2:Pt=some ⟨L.g,L.o+k*2,none⟩:=by rw[←HPT.out,if_neg (by have:=HR.out;omega)]
      have hkl:k<L.ps.length:=by have:=HR.out;have:=HLN.out;omega
      have e3:lineX Pt r (L.ks.map (· -k))=lineC (cutL L k):=by rw[e2,HR.out,HLN.out];exact lineX_cut
      rw[e3] at HB
      have y2:=yd wr.drew (Or.inr rfl)
      have ok':=OK.out.cut k hkl
      have hld:(loadCellsFrom ⟨X,0,none⟩ 0 N #[]).run Tryz.prog wr.drew= .ok (lineC (cutL L k)) wr.drew:=loadCells_blk HB.out.drew ((lineC_size ok').trans HN.out.symm)
      have hup:(Instr.mapUpdate 120 (.map (some B.lb)) (.int .u64 (L.adr:Int)) (.agg (lineC (cutL L k)))).run Tryz.prog wr.drew=
        .ok () (wr.drew.putObj B.lb (.map ((pre++cutL L k::post).map lineE).toArray M.clock)):=by
       have:=run_updU_old (P:=Tryz.prog) wr.drew 120 62 143 Tryz.underlying120 Tryz.underlying62 B.lb _ _ h5.out.map (L.adr:Int) (.agg (lineC (cutL L k))) pre.length (.agg (lineC L)) (by simpa using find_line HM.out H2'.out.keys) (by simp[HM.out,lineE])
       rw[this,HM.out]
       congr 3
       exact modify_lines (pre:=pre) (post:=post) (L:=L) (L':=cutL L k) rfl rfl
      have fin:MemIs (wr.drew.putObj B.lb (.map ((pre++cutL L k::post).map lineE).toArray M.clock)) m B { M with image:=applyPuts M.image (L.ps.take k),lines:=pre++cutL L k::post }:=
       MemIs.reline (L:=L) (L':=cutL L k) (h5.out.only ((Only.refl [] wr).drew) (fun k _ hk=>by cases hk)) HM.out rfl rfl rfl rfl (fun h=>h.cut k (by omega)) ok'
      have FIN:=hid fin
      have HF:=hid hfull
      have HKL:=hid hkl
      have HPT2:=hid e2
      clear yd fin ok' e2 e3 hkl HPT
      have hbe:((r:Int)==0)=false:=by simpa using hfull
      clear n378 n2 z378 hfull
      go_upto_region 16 with(fail)
      go_region_with fail
      all_goals
       try go_simp
       try simp only[Act.put,List.setIfInBounds_toArray,List.set_cons_zero,List.set_cons_succ]
       go_wp2
       go_ret
       refine⟨rfl,?_,(O5.out.drew).putObj (Or.inl (by simp)) _⟩
       have e:lastM M pre L post k={ M with image:=applyPuts M.image (L.ps.take k),lines:=pre++cutL L k::post }:=by
        unfold lastM
        rw[if_neg (by have:=HKL.out;omega)]
        simp
       rw[e]
       simpa only[List.map_append,List.map_cons] using FIN.out
theorem CloneLines_z (r:Nat) (es:Array MapEntry) (clock:Nat) (w:World) (hb:w.heap[r]?=some (.map es clock)):
  Calls Tryz.prog 84 #[.map (some r)] w fun e w'=>e= .returned (.map (some w.heap.size))∧w'=w.alloc (.map es clock):=by
 have hcl:(callFunc 130 #[.iface 120 (.map (some r))]).run Tryz.prog w= .ok (.value (.iface 120 (.map (some w.heap.size)))) (w.alloc (.map es clock)):=by
  rw[run_callFunc_extern Tryz.func130 (by kernel_rfl) (by kernel_rfl) (by kernel_rfl) (e:=Extern.MapsClone.clone) (by kernel_rfl)]
  have e:Extern.MapsClone.clone #[.iface 120 (.map (some r))]=(getObj r>>=fun o=>match o with
   | .map entries clock=>(newObj (.map entries clock)>>=fun n=>pure (.iface 120 (.map (some n))))
   | _=>stuck "maps.clone: a map expected"):=rfl
  rw[e]
  simp[MapKept.run_getObj_map hb,Result.andThen]
 have heq:(binOp BinOp.eql 120 (Value.map (some r)) (Value.map none)).run Tryz.prog w= .ok (.bool false) w:=by kernel_rfl
 have hta: ∀k w',(Instr.typeAssert (.iface 120 (.map (some k))) 20 120 false).run Tryz.prog w'=Result.ok (.map (some k)) w':=fun k w'=>by simp[Instr.typeAssert,run_underlying Tryz.underlying120]
 clear hb
 go_enter Tryz.func84,Tryz.ntmps84
 go_wp2
 go_ret
 try exact⟨rfl,rfl⟩
def lastPut (ps:List (Nat×Int)) (i:Nat) (b:Int):Int:=ps.foldl (fun b p=>if p.1/8=i then p.2 else b) b
theorem lastPut_id {ps:List (Nat×Int)} {i:Nat} (h: ∀p∈ps,p.1/8≠i) (b:Int):lastPut ps i b=b:=by
 induction ps generalizing b with
 | nil=>rfl
 | cons p ps ih=>
  show lastPut ps i (if p.1/8=i then p.2 else b)=b
  rw[if_neg (h p (List.mem_cons_self ..))]
  exact ih (fun q hq=>h q (List.mem_cons_of_mem _ hq)) b
theorem applyPuts_get (ps:List (Nat×Int)) (im:List Int) (i:Nat):(applyPuts im ps)[i]?=im[i]?.map (lastPut ps i):=by
 induction ps generalizing im with
 | nil=>cases h:im[i]?<;>simp[applyPuts,lastPut,h]
 | cons p ps ih=>
  show(applyPuts (im.set (p.1/8) p.2) ps)[i]?=_
  rw[ih,List.getElem?_set]
  by_cases h:p.1/8=i
  ·subst h
   by_cases hl:p.1/8<im.length
   ·simp[hl,lastPut]
   ·simp[hl]
  ·rw[if_neg h]
   cases im[i]?<;>simp[lastPut,h]
def markOf (L:LineA) (c:Nat):Nat:=(L.ks[c]?).getD 0
def cutO (L:LineA) (k:Nat):List LineA:=if k=L.ps.length then[] else[cutL L k]
def imgOf (im:List Int) (k:LineA→Nat) (Ls:List LineA):List Int:=im.mapIdx fun i b=>Ls.foldl (fun b L=>lastPut (L.ps.take (k L)) i b) b
def partM (M:MemS) (k:LineA→Nat) (S:LineA→Bool):MemS:=
 { M with image:=imgOf M.image k (M.lines.filter S),lines:=M.lines.flatMap fun L=>if S L then cutO L (k L) else[L] }
theorem fold_id {k:LineA→Nat} {i:Nat}: ∀{Ls:List LineA},(∀L∈Ls,∀p∈L.ps,p.1/8≠i)→ ∀b,Ls.foldl (fun b L=>lastPut (L.ps.take (k L)) i b) b=b
 | [],_,b=>rfl
 | L::Ls,h,b=>by
  rw[List.foldl_cons,lastPut_id (fun p hp=>h L (List.mem_cons_self ..) p (List.mem_of_mem_take hp))]
  exact fold_id (fun L' h'=>h L' (List.mem_cons_of_mem _ h')) b
theorem mem_filter' {S:LineA→Bool} {Ls:List LineA} {L:LineA} (h:L∈Ls.filter S):L∈Ls:=(List.mem_filter.1 h).1
theorem part_step {M:MemS} {n:Nat} {k:LineA→Nat} {S S':LineA→Bool} {pre post:List LineA} {L:LineA} (hM:M.lines=pre++L::post) (hok: ∀x∈M.lines,LineOK n x) (hkeys:M.lines.Pairwise fun a b=>a.adr≠b.adr)
  (hS:S L=false) (hS':S' L=true) (hother: ∀x∈pre++post,S' x=S x) (hk:k L≤L.ps.length):
  lastM (partM M k S) (pre.flatMap fun L=>if S L then cutO L (k L) else[L]) L (post.flatMap fun L=>if S L then cutO L (k L) else[L]) (k L)=partM M k S':=by
 have e1: ∀Ls:List LineA,(∀x∈Ls,S' x=S x)→(Ls.flatMap fun L=>if S' L then cutO L (k L) else[L])=Ls.flatMap fun L=>if S L then cutO L (k L) else[L]:=by
  intro Ls h
  induction Ls with
  | nil=>rfl
  | cons x xs ih=>simp only[List.flatMap_cons,h x (List.mem_cons_self ..),ih fun y hy=>h y (List.mem_cons_of_mem _ hy)]
 have e2: ∀Ls:List LineA,(∀x∈Ls,S' x=S x)→Ls.filter S'=Ls.filter S:=fun Ls h=>List.filter_congr fun x hx=>h x hx
 have hpre: ∀x∈pre,S' x=S x:=fun x hx=>hother x (List.mem_append_left _ hx)
 have hpost: ∀x∈post,S' x=S x:=fun x hx=>hother x (List.mem_append_right _ hx)
 have hL:(if k L=L.ps.length then([]:List LineA) else[cutL L (k L)])=cutO L (k L):=rfl
 unfold lastM partM
 rw[hM]
 simp only[List.flatMap_append,List.flatMap_cons,List.filter_append,hS',if_true,List.filter_cons,hS,e1 pre hpre,e1 post hpost,e2 pre hpre,e2 post hpost,hL,Bool.false_eq_true,if_false,MemS.mk.injEq,true_and,and_true,List.append_assoc]
 apply List.ext_getElem?
 intro i
 rw[applyPuts_get]
 simp only[imgOf,List.getElem?_mapIdx,List.foldl_append,List.foldl_cons]
 cases M.image[i]? with
 | none=>rfl
 | some b=>
  simp only[Option.map_some,Option.some.injEq]
  generalize(pre.filter S).foldl (fun b L=>lastPut (L.ps.take (k L)) i b) b=b'
  by_cases hi: ∃p∈L.ps,p.1/8=i
  ·obtain⟨p,hp,rfl⟩:=hi
   have hid: ∀x∈post.filter S,∀q∈x.ps,q.1/8≠p.1/8:=by
    intro x hx q hq hc
    have hx':=mem_filter' hx
    have h1:=(hok L (by rw[hM];simp)).puts p hp
    have h2:=(hok x (by rw[hM];simp[hx'])).puts q hq
    have h3:L.adr≠x.adr:=by
     rw[hM,List.pairwise_append] at hkeys
     exact(List.pairwise_cons.1 hkeys.2.1).1 x hx'
    have h4:q.1=p.1:=by omega
    rw[h4] at h2
    omega
   rw[fold_id hid,fold_id hid]
  ·have h1: ∀b,lastPut (L.ps.take (k L)) i b=b:=lastPut_id fun p hp hc=>hi ⟨p,List.mem_of_mem_take hp,hc⟩
   rw[h1,h1]
theorem part_none (M:MemS) (k:LineA→Nat):partM M k (fun _=>false)=M:=by
 unfold partM
 have e:M.lines.filter (fun _=>false)=[]:=by simp
 rw[e]
 have e2:imgOf M.image k []=M.image:=by
  apply List.ext_getElem?
  intro i
  simp[imgOf,List.getElem?_mapIdx]
 rw[e2]
 cases M
 simp[List.flatMap_singleton]
theorem part_foot {m:Nat} {B:MB} {M:MemS} {k:LineA→Nat} {S:LineA→Bool}: ∀x∈footM m B (partM M k S),x∈footM m B M:=by
 intro x hx
 simp only[footM,List.mem_cons,List.mem_map,partM,List.mem_flatMap] at hx ⊢
 rcases hx with h | h | h | h | ⟨L',⟨L,hL,hL'⟩,rfl⟩
 ·exact Or.inl h
 ·exact Or.inr (Or.inl h)
 ·exact Or.inr (Or.inr (Or.inl h))
 ·exact Or.inr (Or.inr (Or.inr (Or.inl h)))
 ·refine Or.inr (Or.inr (Or.inr (Or.inr ⟨L,hL,?_⟩)))
  split at hL'
  ·unfold cutO at hL'
   split at hL'
   ·cases hL'
   ·rw[List.mem_singleton] at hL';subst hL';rfl
  ·rw[List.mem_singleton] at hL';subst hL';rfl
def seenIn (seen:Array Nat) (L:LineA):Bool:=seen.contains L.born
theorem seenIn_push {M:MemS} {pre post:List LineA} {L:LineA} (hM:M.lines=pre++L::post) (hb:M.lines.Pairwise fun a b=>a.born≠b.born) (seen:Array Nat):
  seenIn (seen.push L.born) L=true∧ ∀x∈pre++post,seenIn (seen.push L.born) x=seenIn seen x:=by
 refine⟨by simp[seenIn],fun x hx=> ?_⟩
 unfold seenIn
 rw[contains_push]
 have hne:x.born≠L.born:=by
  rw[hM,List.pairwise_append,List.pairwise_cons] at hb
  rcases List.mem_append.1 hx with h | h
  ·exact hb.2.2 x h L (List.mem_cons_self ..)
  ·exact(hb.2.1.1 x h).symm
 simp[hne]
theorem part_all {M:MemS} {k:LineA→Nat} {S:LineA→Bool} (h: ∀L∈M.lines,S L=true):partM M k S=partM M k (fun _=>true):=by
 have e: ∀Ls:List LineA,(∀L∈Ls,S L=true)→(Ls.flatMap fun L=>if S L then cutO L (k L) else[L])=Ls.flatMap fun L=>if(fun _=>true) L then cutO L (k L) else[L]:=by
  intro Ls h
  induction Ls with
  | nil=>rfl
  | cons x xs ih=>
   rw[List.flatMap_cons,List.flatMap_cons,ih fun y hy=>h y (List.mem_cons_of_mem _ hy),h x (List.mem_cons_self ..)]
 unfold partM
 rw[List.filter_congr (q:=fun _=>true) h,e _ h]
theorem Fence_z (m:Nat) (B:MB) (M:MemS) (c:Nat) (hc:c≤64) (hlen: ∀L∈M.lines,L.ps.length≤1000000000) (w:World) (h:MemIs w m B M):
  Calls Tryz.prog 53 #[ptrV m,.int .i64 (c:Int)] w fun e w'=>
   e= .returned (.int .i64 0)∧ ∃s:St4,s.a=M.st.a∧s.b=M.st.b∧s.c=M.st.c∧s.d=(M.st.d+1)% 18446744073709551616∧
    MemIs w' m B (partM { M with st:=s } (markOf · c) (fun _=>true))∧Only [m,B.ib,B.lb] w w':=by
 have x6:w.cell? ⟨m,6,none⟩=some (.int .u64 M.st.d):=h.blk.cell 6
 have x6f:=h.blk.frozen 6
 have hcz:=hid (show clientE (c:Int)=0 from if_pos ⟨by omega,by omega⟩)
 have z378:=line_zero
 have a378:=line_isAgg
 obtain⟨N,hN⟩: ∃N,N=66:=⟨_,rfl⟩
 have s378: ∀w,(sizeOf 143).run Tryz.prog w= .ok N w:=by rw[hN];exact line_sizeOf
 have n378:lineZ.size=N:=lineZ_size.trans hN.symm
 have HN:=hid hN
 have HLEN:=hid hlen
 have H:=hid h
 clear h hN hlen
 go_enter Tryz.func53,Tryz.ntmps53
 go_wp2_with fail
 refine(there_z m B M.view.length M.st H.out.pos _ H.out.blk).mono ?_
 rintro e w1 ⟨rfl,rfl⟩
 go_wp2_with fail
 refine(client_z (c:Int) _).mono ?_
 rintro e w1 ⟨rfl,rfl⟩
 rw[hcz.out]
 go_upto_region 7 with(fail)
 obtain⟨W1,hW1⟩: ∃W1,W1=w.setCell ⟨m,6,none⟩ (.int .u64 (IntKind.u64.wrap (M.st.d+1))):=⟨_,rfl⟩
 rw[←hW1]
 obtain⟨M1,hM1⟩: ∃M1,M1={ M with st:=⟨M.st.a,M.st.b,M.st.c,IntKind.u64.wrap (M.st.d+1)⟩ }:=⟨_,rfl⟩
 have H1:Hid (MemIs W1 m B M1):=by
  rw[hW1,hM1];exact H.out.counts ((Only.refl _ _).setCell (Or.inl (by simp)) _) (H.out.blk.set_ 6 _)
 have O1:Hid (Only [m,B.ib,B.lb] w W1):=by rw[hW1];exact(Only.refl _ _).setCell (Or.inl (by simp)) _
 have HM1:=hid hM1
 have HL:Hid (M.lines=M1.lines):=by rw[hM1];exact rfl
 clear hM1 hW1 x6 x6f
 have y2:W1.cell? ⟨m,2,none⟩=some (.map (some B.lb)):=H1.out.blk.cell 2
 go_wp2_with fail
 refine(CloneLines_z B.lb _ _ _ H1.out.map).mono ?_
 rintro e w2 ⟨rfl,rfl⟩
 have hrg:=run_range_map (P:=Tryz.prog) (W1.alloc (.map (M1.lines.map lineE).toArray M1.clock)) 120 62 143 W1.heap.size (M1.lines.map lineE).toArray M1.clock Tryz.underlying120 (heap_alloc_new _ _)
 go_wp2
 obtain⟨bm,hbm⟩: ∃bm,bm=W1.heap.size:=⟨_,rfl⟩
 obtain⟨r,hr⟩: ∃r,r=W1.heap.size+1:=⟨_,rfl⟩
 obtain⟨es,hes⟩: ∃es,es=(M1.lines.map lineE).toArray:=⟨_,rfl⟩
 obtain⟨ck,hck⟩: ∃ck,ck=M1.clock:=⟨_,rfl⟩
 obtain⟨W2,hW2⟩: ∃W2,W2=(W1.alloc (.map es ck)).alloc (.mapIter (some bm) ck #[] ck):=⟨_,rfl⟩
 have O12:Only [] W1 W2:=by rw[hW2];exact((Only.refl _ _).alloc _).alloc _
 have H2:=hid (H1.out.only O12 (fun k _ hk=>by cases hk))
 have O2:Hid (Only [m,B.ib,B.lb] w W2):=O1.out.trans O12 (fun x hx=>by cases hx)
 have hsz:(W1.alloc (.map es ck)).heap.size=W1.heap.size+1:=Array.size_push ..
 have I2:=hid (show W2.heap[r]?=some (.mapIter (some bm) ck #[] ck) by rw[hW2,hr,←hsz];exact heap_alloc_new _ _)
 have K2:=hid (show W2.heap[bm]?=some (.map es ck) by
  rw[hW2,hbm]
  exact(Below.heap_alloc _ _ _ (by rw[hsz];omega)).trans (heap_alloc_new _ _))
 have FB:Hid (∀k∈footM m B M1,k≠bm∧k≠r):=fun k hk=>by
  have:=H1.out.foot_lt k hk
  omega
 have BR:Hid (bm≠r∧w.heap.size≤bm∧w.heap.size≤r):=by
  have:=O1.out.size
  refine⟨by omega,by omega,by omega⟩
 have OLD:Hid (∀x∈es.toList,x.born<ck):=fun x hx=>by
  rw[hes] at hx
  simp only[List.mem_map] at hx
  obtain⟨L,hL,rfl⟩:=hx
  rw[hck];exact H1.out.old L hL
 have ND:Hid ((es.toList.map (·.born)).Nodup):=by
  rw[hes]
  show((M1.lines.map lineE).map (·.born)).Nodup
  rw[List.map_map]
  exact List.pairwise_map.2 H1.out.born
 rw[←hr,←hbm,←hes,←hck,←hW2]
 have HES:=hid hes
 have HCK:=hid hck
 clear hsz hW2 hbm hr hes hck y2 hrg O12 H1 O1
 go_loopw [] (fun wr=> ∃seen:Array Nat,Hid (wr.heap[r]?=some (.mapIter (some bm) ck seen ck))∧Hid (wr.heap[bm]?=some (.map es ck))∧Hid (MemIs wr m B (partM M1 (markOf · c) (seenIn seen)))∧Hid (Only [m,B.ib,B.lb] w wr)) (fun wr=>(leftOf es (wr.iterSeen r)).size)
 case atStart=>
  refine⟨#[],I2,K2,?_,O2⟩
  have e:seenIn #[]=fun _=>false:=by funext L;simp[seenIn]
  rw[e,part_none]
  exact H2
 case round=>
  obtain⟨seen,hI,hK,hP,hO⟩:=hrel
  rcases run_next_at (P:=Tryz.prog) wr 0 r bm ck ck seen es ck hI.out hK.out OLD.out (Nat.le_refl _) with⟨h0,hrun⟩ | ⟨e,he,w1,hw1,hrun⟩
  ·have H0:=hid h0
   clear h0
   go_wp2
   go_ret
   have hall:partM M1 (markOf · c) (seenIn seen)=partM M1 (markOf · c) (fun _=>true):=by
    have h1: ∀L∈M1.lines,seenIn seen L=true:=fun L hL=>by
     have:=all_seen es seen H0.out (lineE L) (by rw[HES.out];exact List.mem_map.2 ⟨L,hL,rfl⟩)
     exact this
    exact part_all h1
   rw[hall] at hP
   refine⟨rfl,⟨M.st.a,M.st.b,M.st.c,IntKind.u64.wrap (M.st.d+1)⟩,rfl,rfl,rfl,rfl,?_,hO.out⟩
   have:=hP.out
   rw[HM1.out] at this
   exact this
  ·obtain⟨L,hL,rfl⟩: ∃L∈M1.lines,e=lineE L:=by
    have:=(mem_left he).1
    rw[HES.out] at this
    simp only[List.mem_map] at this
    obtain⟨L,hL,rfl⟩:=this
    exact⟨L,hL,rfl⟩
   have hns:Hid (seenIn seen L=false):=(mem_left he).2
   have hsh:=hid (left_shrinks es seen (lineE L) he)
   have hit:=hid hI.out
   obtain⟨W3,hW3⟩: ∃W3,W3=w1.putObj r (.mapIter (some bm) ck (seen.push (lineE L).born) ck):=⟨_,rfl⟩
   replace hrun:(Instr.next (.pointer (some ⟨r,0,none⟩)) false 0).run Tryz.prog wr= .ok (.tuple #[.bool true,(lineE L).key,(lineE L).val]) W3:=by rw[hW3];exact hrun
   have hon1:Only [r] wr w1:=by rcases hw1 with rfl | rfl;exact Only.refl _ _;exact(Only.refl _ _).drew
   have hon:Only [r] wr W3:=by rw[hW3];exact Only.putObj hon1 (Or.inl (by simp)) _
   have hI3:Hid (W3.heap[r]?=some (.mapIter (some bm) ck (seen.push L.born) ck)):=by
    rw[hW3]
    exact putObj_at (w:=w1) (o:= .mapIter (some bm) ck seen ck) (by rcases hw1 with rfl | rfl<;>exact hI.out)
   have hK3:Hid (W3.heap[bm]?=some (.map es ck)):=(hon.block _ (Array.getElem?_eq_some_iff.1 hK.out).1 (by simpa using BR.out.1)).trans hK.out
   have hP3:=hid (hP.out.only hon (fun k hk hm=>(FB.out k (part_foot k hk)).2 (by simpa using hm)))
   have hO3:Hid (Only [m,B.ib,B.lb] w W3):=hO.out.trans hon (fun x hx=>Or.inr (by simp at hx;subst hx;exact BR.out.2.2))
   have hent:=run_entry_at (P:=Tryz.prog) W3 r bm ck seen es ck (lineE L) hI3.out hK3.out (mem_left he).1 ND.out
   have HLM:=hid hL
   simp only[lineE] at hrun hent
   clear hw1 hW3 hon hon1 hI hK hP hO he hL
   have okL:=H2.out.ok L HLM.out
   have hst:(storeCells ⟨W3.heap.size,0,none⟩ (lineC L).toList 0).run Tryz.prog (W3.alloc (.cells lineZ 143))= .ok () (W3.alloc (.cells (lineC L) 143)):=
    run_storeCells_new (P:=Tryz.prog) W3 143 lineZ (lineC L) (by rw[line_size,lineC_size okL]) (by rw[lineC_size okL];rfl) (lineC_one L)
   have n2:(lineC L).size=N:=(lineC_size okL).trans HN.out.symm
   obtain⟨k,hk⟩: ∃k,L.ks[c]?=some k:=⟨_,List.getElem?_eq_getElem (by rw[okL.marks];omega)⟩
   have hkm:markOf L c=k:=by simp[markOf,hk]
   have hkl:k≤L.ps.length:=okL.most k (List.mem_of_getElem? hk)
   have hll:L.ps.length≤1000000000:=HLEN.out L (by rw[HL.out];exact HLM.out)
   have y0:(W3.alloc (.cells (lineC L) 143)).cell? ⟨W3.heap.size,1+c,none⟩=some (.int .i64 (k:Int)):=by
    rw[(Blk.new W3 143 (lineC L)).cell,Nat.add_comm]
    simp[lineC,marksC,hk]
   have j1:(0:Int)≤(c:Int):=by omega
   have j2:(c:Int)<65:=by omega
   obtain⟨pre,post,hpp⟩:=List.append_of_mem HLM.out
   have hpl:(partM M1 (markOf · c) (seenIn seen)).lines=(pre.flatMap fun L=>if seenIn seen L then cutO L (markOf L c) else[L])++L::(post.flatMap fun L=>if seenIn seen L then cutO L (markOf L c) else[L]):=by
    show M1.lines.flatMap _=_
    rw[hpp]
    simp[List.flatMap_append,List.flatMap_cons,hns.out]
   have hP4:=hid (hP3.out.only ((Only.refl [] W3).alloc (.cells (lineC L) 143)) (fun k _ hk=>by cases hk))
   have HKM:=hid hkm
   have HKL:=hid hkl
   have HLL:=hid hll
   have HPL:=hid hpl
   have HPP:=hid hpp
   clear hk hkm hkl hll hpl hpp okL
   go_wp2_with fail
   refine(last_some m B (partM M1 (markOf · c) (seenIn seen)) k k _ _ L HPL.out HLL.out (by have:=HKL.out;have:=HLL.out;omega) (Nat.min_eq_left HKL.out).symm _ hP4.out).mono ?_
   rintro e w5 ⟨rfl,hP5,hO5⟩
   have hstep:=part_step (S:=seenIn seen) (S':=seenIn (seen.push L.born)) (k:=(markOf · c)) HPP.out H2.out.ok H2.out.keys hns.out (seenIn_push HPP.out H2.out.born seen).1 (seenIn_push HPP.out H2.out.born seen).2 (by show markOf L c≤_;rw[HKM.out];exact HKL.out)
   simp only[HKM.out] at hstep
   rw[hstep] at hP5
   have hO6:Only [B.ib,B.lb] W3 w5:=((Only.refl [B.ib,B.lb] W3).alloc (.cells (lineC L) 143)).trans hO5 (fun x hx=>Or.inl hx)
   have fb1:=FB.out B.ib (by simp[footM])
   have fb2:=FB.out B.lb (by simp[footM])
   have hI5:Hid (w5.heap[r]?=some (.mapIter (some bm) ck (seen.push L.born) ck)):=
    (hO6.block _ (Array.getElem?_eq_some_iff.1 hI3.out).1 (by simp;exact⟨fun e=>fb1.2 e.symm,fun e=>fb2.2 e.symm⟩)).trans hI3.out
   have hK5:Hid (w5.heap[bm]?=some (.map es ck)):=
    (hO6.block _ (Array.getElem?_eq_some_iff.1 hK3.out).1 (by simp;exact⟨fun e=>fb1.1 e.symm,fun e=>fb2.1 e.symm⟩)).trans hK3.out
   have HP5:=hid hP5
   have hO7:Hid (Only [m,B.ib,B.lb] w w5):=hO3.out.trans hO6 (fun x hx=>Or.inl (by simp at hx;simp[hx]))
   clear hstep hP5 hO6 fb1 fb2 hO5 hst hrun hent y0
   go_wp2
   go_roundw
   case rel=>exact⟨seen.push L.born,hI5,hK5,HP5,hO7⟩
   case measure=>
    have h1:w5.iterSeen r=seen.push L.born:=by unfold World.iterSeen;rw[hI5.out]
    have h2:wr.iterSeen r=seen:=by unfold World.iterSeen;rw[hit.out]
    rw[h1,h2]
    exact hsh.out
end Go.Proofs.YtjmaicckkkdjpaaGreat
