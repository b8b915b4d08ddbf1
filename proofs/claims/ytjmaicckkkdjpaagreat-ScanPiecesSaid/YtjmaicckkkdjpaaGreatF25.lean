import Derived.Test.YtjmaicckkkdjpaaGreatF27
import Derived.Maps.RangeRun
import Derived.Laws.Externs
import Derived.Deep.MidRow
import Derived.Test.YtjmaicckkkdjpaaGreatF49
set_option maxRecDepth 100000
set_option maxHeartbeats 4000000
set_option linter.unusedVariables false
set_option linter.unusedSimpArgs false
/- A memory of words: flushes of a line that is there. -/
namespace Go.Proofs.YtjmaicckkkdjpaaGreat
open Go.RowKit
theorem Flush_some (m:Nat) (B:MB) (M:MemS) (c k:Nat) (hc:c≤64) (hk:k<M.view.length) (pre post:List LineA) (L:LineA) (hM:M.lines=pre++L::post) (hadr:L.adr=8*k-8*k % 64) (hlen:L.ps.length≤1000000000) (w:World) (h:MemIs w m B M):
  Calls Tryz.prog 52 #[ptrV m,.int .i64 (c:Int),.int .u64 (8*(k:Int))] w fun e w'=>
   e= .returned (.int .i64 0)∧ ∃s,s.a=M.st.a∧s.b=M.st.b∧s.c=(M.st.c+1)% 18446744073709551616∧s.d=M.st.d∧
    MemIs w' m B { M with st:=s,lines:=pre++{ L with ks:=L.ks.set c L.ps.length }::post }∧Only [m,B.lb] w w':=by
 have hbig:=h.big
 have hL:L∈M.lines:=by rw[hM];simp
 have hok:=h.ok L hL
 have x2:w.cell? ⟨m,2,none⟩=some (.map (some B.lb)):=h.blk.cell 2
 have x5:w.cell? ⟨m,5,none⟩=some (.int .u64 M.st.c):=h.blk.cell 5
 have x5f:=h.blk.frozen 5
 have hz:=hid (show atE M.view.length (8*(k:Int))=0 from if_pos ⟨by omega,by omega⟩)
 have hcz:=hid (show clientE (c:Int)=0 from if_pos ⟨by omega,by omega⟩)
 have z378:=line_zero
 obtain⟨N,hN⟩: ∃N,N=66:=⟨_,rfl⟩
 have s378: ∀w,(sizeOf 143).run Tryz.prog w= .ok N w:=by rw[hN];exact line_sizeOf
 have a378:=line_isAgg
 have n378:lineZ.size=N:=lineZ_size.trans hN.symm
 have n2:(lineC L).size=N:=(lineC_size hok).trans hN.symm
 have HN:=hid hN
 clear hN
 have hck:c<L.ks.length:=by rw[hok.marks];omega
 have HM:=hid hM
 have HA:=hid hadr
 have H:=hid h
 clear h hM hadr
 go_enter Tryz.func52,Tryz.ntmps52
 go_wp2_with fail
 refine(there_z m B M.view.length M.st H.out.pos _ H.out.blk).mono ?_
 rintro e w1 ⟨rfl,rfl⟩
 go_wp2_with fail
 refine(client_z (c:Int) _).mono ?_
 rintro e w1 ⟨rfl,rfl⟩
 rw[hcz.out]
 go_wp2_with fail
 refine(at_z m B M.view.length M.st H.out.pos hbig (8*(k:Int)) (by omega) (by omega) _ H.out.blk).mono ?_
 rintro e w1 ⟨rfl,rfl⟩
 rw[hz.out]
 go_wp2
 obtain⟨W1,hW1⟩: ∃W1,W1=w.setCell ⟨m,5,none⟩ (.int .u64 (IntKind.u64.wrap (M.st.c+1))):=⟨_,rfl⟩
 rw[←hW1]
 have H1:Hid (MemIs W1 m B { M with st:=⟨M.st.a,M.st.b,IntKind.u64.wrap (M.st.c+1),M.st.d⟩ }):=by
  rw[hW1];exact H.out.counts ((Only.refl _ _).setCell (Or.inl (by simp)) _) (H.out.blk.set_ 5 _)
 have HO1:=hid (show Only [m,B.lb] w W1 by rw[hW1];exact(Only.refl _ _).setCell (Or.inl (by simp)) _)
 clear hW1
 have y2:W1.drew.cell? ⟨m,2,none⟩=some (.map (some B.lb)):=H1.out.blk.drew.cell 2
 have y2':(W1.alloc (.cells lineZ 143)).drew.cell? ⟨m,2,none⟩=some (.map (some B.lb)):=(H1.out.blk.drew.alloc _).cell 2
 have e:(L.adr:Int)=8*(k:Int)-8*(k:Int)% 64:=by rw[HA.out];omega
 have hlk0: ∀W:World,W.heap[B.lb]?=some (.map (M.lines.map lineE).toArray M.clock)→(Instr.lookup 120 (.map (some B.lb)) (.int .u64 (8*(k:Int)-8*(k:Int)% 64)) true).run Tryz.prog W= .ok (.tuple #[.agg (lineC L),.bool true]) W:=by
  intro W hW
  have:=run_lookU_some (P:=Tryz.prog) W 120 62 143 Tryz.underlying120 Tryz.underlying62 B.lb _ _ hW (L.adr:Int) pre.length (.agg (lineC L)) true (by simpa using find_line HM.out H.out.keys)
  rw[e] at this;exact this
 have hlk:=hlk0 W1.drew H1.out.map
 have hlk':=hlk0 (W1.alloc (.cells lineZ 143)).drew (by show(W1.alloc _).heap[B.lb]?=_;rw[Below.heap_alloc W1 _ _ (H1.out.foot_lt _ (by simp[footM]))];exact H1.out.map)
 have hst:(storeCells ⟨W1.heap.size,0,none⟩ (lineC L).toList 0).run Tryz.prog (W1.alloc (.cells lineZ 143)).drew= .ok () (W1.alloc (.cells (lineC L) 143)).drew:=
  run_storeCells_new (P:=Tryz.prog) W1.drew 143 lineZ (lineC L) (by rw[line_size,lineC_size hok]) (by rw[lineC_size hok];rfl) (lineC_one L)
 clear x2 x5 x5f hlk0 e
 refine share (X:= ?X) (fun key=> ?_) ?_
 rotate_left
 ·go_region_with (first
   | (go_at_call 57;refine(begin_z (8*(k:Int)) (by omega) (by omega) _).mono ?_;rintro e w2 ⟨rfl,rfl⟩))
  all_goals
   try go_simp
   try simp only[Act.put,List.setIfInBounds_toArray,List.set_cons_zero,List.set_cons_succ]
   exact key.out
 clear y2 y2' hlk hlk' hst
 have b2:=(Blk.new W1 143 (lineC L)).drew
 have h2:=H1.out.only (((Only.refl [] W1).alloc (.cells (lineC L) 143)).drew) (fun k _ hk=>by cases hk)
 have o2:Only [m,B.lb] w (W1.alloc (.cells (lineC L) 143)).drew:=(HO1.out.alloc _).drew
 have n3: ∀k∈footM m B M,k≠W1.heap.size:=fun k hk e=>by have:=H1.out.foot_lt k hk;omega
 have o3:w.heap.size≤W1.heap.size:=HO1.out.size
 obtain⟨X,hX⟩: ∃X,X=W1.heap.size:=⟨_,rfl⟩
 obtain⟨W2,hW2⟩: ∃W2,W2=(W1.alloc (.cells (lineC L) 143)).drew:=⟨_,rfl⟩
 rw[←hW2,←hX]
 rw[←hW2] at h2 o2
 rw[←hW2,←hX] at b2
 rw[←hX] at n3 o3
 have H2:=hid h2
 have O2:=hid o2
 have N3:=hid n3
 have B2:=hid b2
 clear hW2 hX h2 o2 n3 H1 HO1
 have z0:W2.cell? ⟨X,0,none⟩=some (.slice (some ⟨L.g,L.o,none⟩) L.ps.length L.cap):=B2.out.cell 0
 have zc:W2.cell? ⟨X,1+c,none⟩=some (.int .i64 ((L.ks[c]'hck:Nat):Int)):=by
  rw[B2.out.cell,Nat.add_comm]
  simp[lineC,marksC,hck]
 have zf:=B2.out.frozen (1+c)
 have i1:(0:Int)≤(c:Int):=by omega
 have i2:(c:Int)<65:=by omega
 clear b2
 go_wp2
 clear z0 zc zf
 have ok':LineOK M.view.length { L with ks:=L.ks.set c L.ps.length }:=⟨hok.adr,hok.some_,hok.puts,by simp[hok.marks],fun k hk=>by
  rcases List.mem_or_eq_of_mem_set hk with h | h
  ·exact hok.most k h
  ·rw[h];exact Nat.le_refl _⟩
 obtain⟨W3,hW3⟩: ∃W3,W3=W2.setCell ⟨X,1+c,none⟩ (.int .i64 (L.ps.length:Int)):=⟨_,rfl⟩
 rw[←hW3]
 have B3:Hid (Blk W3 X 143 (lineC { L with ks:=L.ks.set c L.ps.length })):=by
  rw[hW3,Nat.add_comm,←lineC_mark];exact B2.out.set_ (c+1) _
 have O23:Only [X] W2 W3:=by rw[hW3];exact(Only.refl _ _).setCell (Or.inl (by simp)) _
 have H3:=hid (H2.out.only O23 (fun k hk hm=>N3.out k hk (by simpa using hm)))
 have O3:Hid (Only [m,B.lb] w W3):=O2.out.trans O23 (fun x hx=>Or.inr (by simp at hx;omega))
 clear hW3 O23 H2 O2 B2 N3
 have y2:W3.drew.cell? ⟨m,2,none⟩=some (.map (some B.lb)):=H3.out.blk.drew.cell 2
 have n3:=lineC_size ok'
 have hld:(loadCellsFrom ⟨X,0,none⟩ 0 N #[]).run Tryz.prog W3.drew= .ok (lineC { L with ks:=L.ks.set c L.ps.length }) W3.drew:=loadCells_blk B3.out.drew (n3.trans HN.out.symm)
 have e:(L.adr:Int)=8*(k:Int)-8*(k:Int)% 64:=by rw[HA.out];omega
 have hup:(Instr.mapUpdate 120 (.map (some B.lb)) (.int .u64 (8*(k:Int)-8*(k:Int)% 64)) (.agg (lineC { L with ks:=L.ks.set c L.ps.length }))).run Tryz.prog W3.drew=
   .ok () (W3.drew.putObj B.lb (.map ((pre++{ L with ks:=L.ks.set c L.ps.length }::post).map lineE).toArray M.clock)):=by
  have:=run_updU_old (P:=Tryz.prog) W3.drew 120 62 143 Tryz.underlying120 Tryz.underlying62 B.lb _ _ H3.out.map (L.adr:Int) (.agg (lineC { L with ks:=L.ks.set c L.ps.length })) pre.length (.agg (lineC L)) (by simpa using find_line HM.out H3.out.keys) (by simp[HM.out,lineE])
  rw[e] at this
  rw[this,HM.out]
  congr 3
  have:=modify_lines (pre:=pre) (post:=post) (L:=L) (L':={ L with ks:=L.ks.set c L.ps.length }) rfl rfl
  rw[e] at this
  exact this
 clear e n3
 refine share (X:= ?Y) (fun key=> ?_) ?_
 rotate_left
 ·go_region_with (first
   | (go_at_call 57;refine(begin_z (8*(k:Int)) (by omega) (by omega) _).mono ?_;rintro e w2 ⟨rfl,rfl⟩))
  all_goals
   try go_simp
   try simp only[Act.put,List.setIfInBounds_toArray,List.set_cons_zero,List.set_cons_succ]
   exact key.out
 go_wp2
 go_ret
 have hM3:=H3.out
 refine⟨rfl,⟨M.st.a,M.st.b,IntKind.u64.wrap (M.st.c+1),M.st.d⟩,rfl,rfl,rfl,rfl,?_,(O3.out.drew).putObj (Or.inl (by simp)) _⟩
 have h3d:MemIs W3.drew m B { M with st:=⟨M.st.a,M.st.b,IntKind.u64.wrap (M.st.c+1),M.st.d⟩ }:=hM3.only ((Only.refl [] W3).drew) (fun k _ hk=>by cases hk)
 exact MemIs.reline (L:=L) (L':={ L with ks:=L.ks.set c L.ps.length }) h3d HM.out rfl rfl rfl (by simp only[List.map_append,List.map_cons]) (fun h=>h) ok'
end Go.Proofs.YtjmaicckkkdjpaaGreat
/- A memory of words: its primitives, loosely: what they count, that they hold the memory. -/
namespace Go.Proofs.YtjmaicckkkdjpaaGreat
open Go.RowKit
def tot (M:MemS):Int:=M.st.a+M.st.b+M.st.c+M.st.d
structure Mems (w:World) (m:Nat) (B:MB) (M:MemS) (K:Nat):Prop where
 is:MemIs w m B M
 few: ∀L∈M.lines,L.ps.length≤K
 two:2≤M.view.length
structure Went (m:Nat) (B:MB) (w:World) (M:MemS) (w':World) (M':MemS) (d:Nat):Prop where
 only:Only (footM m B M) w w'
 foot: ∀k∈footM m B M',k∈footM m B M∨w.heap.size≤k
 tot:tot M' % 18446744073709551616=(tot M+d)% 18446744073709551616
theorem Mems.only {f:List Nat} {w w':World} {m:Nat} {B:MB} {M:MemS} {K:Nat} (h:Mems w m B M K) (ho:Only f w w') (hf: ∀k∈footM m B M,k∉f):Mems w' m B M K:=⟨h.is.only ho hf,h.few,h.two⟩
theorem lineG_mem {m:Nat} {B:MB} {M:MemS} {L:LineA} (h:L∈M.lines):L.g∈footM m B M:=by
 simp only[footM,List.mem_cons,List.mem_map]
 exact Or.inr (Or.inr (Or.inr (Or.inr ⟨L,h,rfl⟩)))
theorem mem_foot {m:Nat} {B:MB} {M:MemS} {k:Nat}:k∈footM m B M↔k=m∨k=B.vb∨k=B.ib∨k=B.lb∨ ∃L∈M.lines,L.g=k:=by
 simp only[footM,List.mem_cons,List.mem_map]
structure LP where
 adr:Nat
 ps:List (Nat×Int)
 ks:List Nat
structure MA where
 view:List Int
 image:List Int
 lines:List LP
def absL (L:LineA):LP:=⟨L.adr,L.ps,L.ks⟩
def absM (M:MemS):MA:=⟨M.view,M.image,M.lines.map absL⟩
def lineAt (k:Nat):Nat:=8*k-8*k % 64
def flushL (c k:Nat) (l:LP):LP:=if l.adr=lineAt k then⟨l.adr,l.ps,l.ks.set c l.ps.length⟩ else l
def flushA (m:MA) (c k:Nat):MA:=⟨m.view,m.image,m.lines.map (flushL c k)⟩
def cutP (l:LP) (k:Nat):List LP:=if k=l.ps.length then[] else[⟨l.adr,l.ps.drop k,l.ks.map (· -k)⟩]
def markP (l:LP) (c:Nat):Nat:=(l.ks[c]?).getD 0
def fenceA (m:MA) (c:Nat):MA:=⟨m.view,m.image.mapIdx fun i b=>m.lines.foldl (fun b l=>lastPut (l.ps.take (markP l c)) i b) b,m.lines.flatMap fun l=>cutP l (markP l c)⟩
theorem others_ne {M:MemS} {pre post:List LineA} {L:LineA} (hM:M.lines=pre++L::post) (hk:M.lines.Pairwise fun a b=>a.adr≠b.adr):(∀x∈pre,x.adr≠L.adr)∧ ∀x∈post,x.adr≠L.adr:=by
 rw[hM,List.pairwise_append] at hk
 refine⟨fun x hx=>hk.2.2 x hx L (List.mem_cons_self ..),fun x hx=> ?_⟩
 have:=(List.pairwise_cons.1 hk.2.1).1 x hx
 exact fun e=>this e.symm
theorem map_id_of {α:Type} (f:α→α) (l:List α) (h: ∀x∈l,f x=x):l.map f=l:=by
 induction l with
 | nil=>rfl
 | cons x l ih=>rw[List.map_cons,h x (List.mem_cons_self ..),ih (fun y hy=>h y (List.mem_cons_of_mem _ hy))]
theorem flatMap_map' {α β γ:Type} (f:α→β) (g:β→List γ) (l:List α):(l.map f).flatMap g=l.flatMap fun x=>g (f x):=by
 induction l with
 | nil=>rfl
 | cons x l ih=>rw[List.map_cons,List.flatMap_cons,List.flatMap_cons,ih]
theorem map_flatMap' {α β γ:Type} (f:β→γ) (g:α→List β) (l:List α):(l.flatMap g).map f=l.flatMap fun x=>(g x).map f:=by
 induction l with
 | nil=>rfl
 | cons x l ih=>rw[List.flatMap_cons,List.map_append,List.flatMap_cons,ih]
theorem cut_abs (L:LineA) (k:Nat):(cutO L k).map absL=cutP (absL L) k:=by
 unfold cutO cutP
 show _=if k=L.ps.length then[] else _
 split<;>rfl
end Go.Proofs.YtjmaicckkkdjpaaGreat
/- A memory's flushes and fences, exactly, with what they count. -/
namespace Go.Proofs.YtjmaicckkkdjpaaGreat
open Go.RowKit
def St64 (s:St4):Prop:=(0≤s.a∧s.a<18446744073709551616)∧(0≤s.b∧s.b<18446744073709551616)∧(0≤s.c∧s.c<18446744073709551616)∧(0≤s.d∧s.d<18446744073709551616)
def PrimG (m:Nat) (B:MB) (w:World) (M:MemS) (K:Nat) (tz:MA) (ic jd:Int) (e:Ending) (w':World):Prop:=
 e= .returned (.int .i64 0)∧ ∃M',Mems w' m B M' K∧Went m B w M w' M' 1∧absM M'=tz∧M'.st.a=M.st.a∧M'.st.b=M.st.b∧M'.st.c=(M.st.c+ic)% 18446744073709551616∧M'.st.d=(M.st.d+jd)% 18446744073709551616
theorem Flush_g (m:Nat) (B:MB) (M:MemS) (K:Nat) (c k:Nat) (hc:c≤64) (hk:k<M.view.length) (w:World) (h:Mems w m B M K) (hst:St64 M.st) (hK:K≤1000000000):
  Calls Tryz.prog 52 #[ptrV m,.int .i64 (c:Int),.int .u64 (8*(k:Int))] w (PrimG m B w M K (flushA (absM M) c k) 1 0):=by
 obtain⟨u1,u2,u3,u4⟩:=hst
 by_cases hl: ∃L∈M.lines,L.adr=8*k-8*k % 64
 ·obtain⟨L,hL,ha⟩:=hl
  obtain⟨pre,post,hM⟩:=List.append_of_mem hL
  have hne:=others_ne hM h.is.keys
  refine(Flush_some m B M c k hc hk pre post L hM ha (Nat.le_trans (h.few L hL) hK) w h.is).mono fun e w' hp=> ?_
  obtain⟨rfl,s,h1,h2,h3,h4,h5,h6⟩:=hp
  refine⟨rfl,_,⟨h5,fun L' hL'=> ?_,h.two⟩,⟨h6.mono (fun y hy=> ?_),fun k hk=> ?_,?_⟩,?_,⟨h1,h2,h3,by show s.d=_;omega⟩⟩
  ·simp only[List.mem_append,List.mem_cons] at hL'
   rcases hL' with h' | rfl | h'
   ·exact h.few L' (by rw[hM];simp[h'])
   ·exact h.few L hL
   ·exact h.few L' (by rw[hM];simp[h'])
  ·simp at hy
   rw[mem_foot]
   rcases hy with rfl | rfl<;>simp
  ·refine Or.inl ?_
   rw[mem_foot] at hk ⊢
   rcases hk with hk | hk | hk | hk | ⟨L',hL',rfl⟩
   ·exact Or.inl hk
   ·exact Or.inr (Or.inl hk)
   ·exact Or.inr (Or.inr (Or.inl hk))
   ·exact Or.inr (Or.inr (Or.inr (Or.inl hk)))
   ·simp only[List.mem_append,List.mem_cons] at hL'
    rcases hL' with h' | rfl | h'
    ·exact Or.inr (Or.inr (Or.inr (Or.inr ⟨L',by rw[hM];simp[h'],rfl⟩)))
    ·exact Or.inr (Or.inr (Or.inr (Or.inr ⟨L,hL,rfl⟩)))
    ·exact Or.inr (Or.inr (Or.inr (Or.inr ⟨L',by rw[hM];simp[h'],rfl⟩)))
  ·simp only[tot,h1,h2,h3,h4]
   omega
  ·unfold absM flushA
   simp only[hM,List.map_append,List.map_cons,List.map_map]
   have e: ∀ls:List LineA,(∀x∈ls,x.adr≠L.adr)→ls.map (flushL c k∘absL)=ls.map absL:=fun ls hls=>by
    apply List.map_congr_left
    intro x hx
    show(if x.adr=lineAt k then _ else _)=_
    rw[if_neg (by have:=hls x hx;rw[ha] at this;exact this)]
   rw[e pre hne.1,e post hne.2]
   have:flushL c k (absL L)=⟨L.adr,L.ps,L.ks.set c L.ps.length⟩:=if_pos ha
   rw[this];rfl
 ·refine(Flush_none m B M c k hc hk (fun L hL hc=>hl ⟨L,hL,hc⟩) w h.is).mono fun e w' hp=> ?_
  obtain⟨rfl,s,h1,h2,h3,h4,h5,h6⟩:=hp
  refine⟨rfl,_,⟨h5,fun L hL=>h.few L hL,h.two⟩,⟨h6.mono (fun x hx=>by simp at hx;subst hx;simp[footM]),fun k hk=>Or.inl hk,?_⟩,?_,⟨h1,h2,h3,by show s.d=_;omega⟩⟩
  ·simp only[tot,h1,h2,h3,h4]
   omega
  ·unfold absM flushA
   rw[map_id_of (flushL c k) (M.lines.map absL) (fun y hy=>by
    obtain⟨z,hz,rfl⟩:=List.mem_map.1 hy
    exact if_neg (fun hc=>hl ⟨z,hz,hc⟩))]
theorem Fence_g (m:Nat) (B:MB) (M:MemS) (K c:Nat) (hc:c≤64) (w:World) (h:Mems w m B M K) (hst:St64 M.st) (hK:K≤1000000000):
  Calls Tryz.prog 53 #[ptrV m,.int .i64 (c:Int)] w (PrimG m B w M K (fenceA (absM M) c) 0 1):=by
 obtain⟨u1,u2,u3,u4⟩:=hst
 refine(Fence_z m B M c hc (fun L hL=>Nat.le_trans (h.few L hL) hK) w h.is).mono fun e w' hp=> ?_
 obtain⟨rfl,s,h1,h2,h3,h4,h5,h6⟩:=hp
 refine⟨rfl,_,⟨h5,fun L' hL'=> ?_,h.two⟩,⟨h6.mono (fun y hy=> ?_),fun k hk=>Or.inl ?_,?_⟩,?_,⟨h1,h2,by show s.c=_;omega,h4⟩⟩
 ·simp only[partM,List.mem_flatMap] at hL'
  obtain⟨L,hL,hm⟩:=hL'
  have:=h.few L hL
  simp only[if_true,cutO] at hm
  split at hm
  ·cases hm
  ·rw[List.mem_singleton] at hm;subst hm
   simp[cutL];omega
 ·simp at hy
  rw[mem_foot]
  rcases hy with rfl | rfl | rfl<;>simp
 ·exact part_foot (M:={ M with st:=s }) k hk
 ·simp only[tot,partM,h1,h2,h3,h4]
  omega
 ·unfold absM fenceA partM
  have hf:M.lines.filter (fun _=>true)=M.lines:=List.filter_eq_self.2 (fun _ _=>rfl)
  simp only[if_true,hf,imgOf,List.foldl_map,flatMap_map',map_flatMap',cut_abs]
  rfl
end Go.Proofs.YtjmaicckkkdjpaaGreat
/- Locks: new ones; a copy. -/
namespace Go.Proofs.YtjmaicckkkdjpaaGreat
open Go.RowKit
theorem LNew_t (c:Int) (hc:1≤c∧c≤64) (w:World):
  Calls Tryz.prog 106 #[.int .i64 c] w fun e w'=>e= .returned (.tuple #[.pointer (some ⟨w.heap.size+1,0,none⟩),.int .i64 0])∧TabIs w' (w.heap.size+1) w.heap.size c [] (List.replicate 64 0)∧Below w.heap.size w w':=by
 have i1: ¬c<1:=by omega
 have i2: ¬c>64:=by omega
 have hmm: ∀w,(Instr.makeMap 198 none).run Tryz.prog w= .ok (.map (some w.heap.size)) (w.alloc (.map #[] 0)):=fun _=>rfl
 have HC:=hid hc
 clear hc
 go_enter Tryz.func106,Tryz.ntmps106
 go_wp2
 go_ret2
 have hb:Below w.heap.size w ((w.alloc (.map #[] 0)).alloc (.cells ((Tryz.zeroCells255.setIfInBounds 0 (Value.int IntKind.i64 c)).setIfInBounds 1 (Value.map (some w.heap.size))) 255)):=by(repeat(first | exact Below.refl _ _ | (refine ba ?_ _) | (refine Below.drew ?_) | (refine below_drewN ?_ _) | (refine Below.alloc ?_ (by first | omega | (simp;done) | (simp;omega)) _) | (refine Below.setCell ?_ (by first | omega | (simp;done) | (simp;omega)) _) | (refine bx ?_ (by assumption)) | (refine Below.trans ?_ (Below.mono (by assumption) (by first | omega | (simp;done) | (simp;omega))))))
 refine⟨rfl,⟨?_,⟨#[],0,?_,rfl,by simp[BornOK]⟩,HC.out,by simp,by omega⟩,hb⟩
 ·have h1:=Blk.new (w.alloc (.map #[] 0)) 255 ((Tryz.zeroCells255.setIfInBounds 0 (Value.int IntKind.i64 c)).setIfInBounds 1 (Value.map (some w.heap.size)))
  simp only[World.size_alloc] at h1
  have h2:(Tryz.zeroCells255.setIfInBounds 0 (Value.int IntKind.i64 c)).setIfInBounds 1 (Value.map (some w.heap.size))=tabC c w.heap.size (List.replicate 64 0):=by rfl
  rw[h2] at h1
  exact h1
 ·exact(Below.heap_alloc _ _ _ (by simp)).trans (heap_alloc_new _ _)
theorem SNew_t (ma sa:Option Addr) (z n:Nat) (c:Int) (hn:1≤n∧n≤64) (hz:z=1024*(1+n)) (hc:1≤c∧c≤64) (w:World) (hm:HasMem w (.pointer ma) z) (hs:HasSlabs w (.pointer sa) n):
  Calls Tryz.prog 60 #[(.pointer ma),(.pointer sa),.int .i64 c] w fun e w'=>Below w.heap.size w w'∧ ∃x t mb,e= .returned (.tuple #[.pointer (some ⟨x,0,none⟩),.int .i64 0])∧SiteAt w' x (.pointer ma) (.pointer sa) t c∧TabIs w' t mb c [] (List.replicate 64 0)∧w.heap.size≤x∧w.heap.size≤t∧w.heap.size≤mb∧x≠t∧x≠mb:=by
 have HM:=hid hm
 have HS:=hid hs
 have HC:=hid hc
 have t0:((z:Int)==0)=false:=by simp;omega
 have t1:((n:Int)==0)=false:=by simp;omega
 have hsz:sizeZ (n:Int)=(z:Int):=by unfold sizeZ;rw[if_pos (by omega)];omega
 have hSize:=Size_z (n:Int)
 rw[hsz] at hSize
 have HSZ:=hid hSize
 have t2:((z:Int) !=(z:Int))=false:=by simp
 clear hm hs hz hsz hSize hc hn
 go_enter Tryz.func60,Tryz.ntmps60
 go_wp2_with fail
 refine(MSize_z (.pointer ma) z w HM.out).mono ?_
 rintro e w1 ⟨rfl,rfl⟩
 go_wp2_with fail
 refine(Slabs_s (.pointer sa) n w HS.out).mono ?_
 rintro e w1 ⟨rfl,rfl⟩
 go_wp2_with fail
 refine(LNew_t c HC.out w).mono ?_
 rintro e w2 ⟨rfl,ht,hb⟩
 have HM2:=hid (HM.out.bel hb)
 have HS2:=hid (HS.out.bel hb)
 have HB:=hid hb
 have HT:=hid ht
 obtain⟨t,hte⟩: ∃t,t=w.heap.size+1:=⟨_,rfl⟩
 rw[←hte] at HT
 have HTE:=hid hte
 rw[←hte]
 clear hb ht hte
 go_wp2_with fail
 refine(MSize_z (.pointer ma) z w2 HM2.out).mono ?_
 rintro e w1 ⟨rfl,rfl⟩
 go_wp2_with fail
 refine(Slabs_s (.pointer sa) n w2 HS2.out).mono ?_
 rintro e w1 ⟨rfl,rfl⟩
 go_wp2_with fail
 refine(HSZ.out w2).mono ?_
 rintro e w1 ⟨rfl,rfl⟩
 go_wp2
 go_ret2
 have hal:Below w2.heap.size w2 (w2.alloc (.cells #[(.pointer ma),(.pointer sa),.pointer (some ⟨t,0,none⟩)] 219)):=ba (Below.refl _ _) _
 have hl:=HT.out.lt
 have hte:=HTE.out
 refine⟨bx HB.out hal,w2.heap.size,t,w.heap.size,rfl,⟨Blk.new w2 _ _,(hal.cell (p:=⟨t,0,none⟩) hl.1).trans HT.out.cc,Nat.lt_of_lt_of_le hl.1 hal.size,HC.out⟩,HT.out.only (Only.of_below hal []) (by simp) (by simp),HB.out.size,by omega,Nat.le_refl _,by omega,by omega⟩
end Go.Proofs.YtjmaicckkkdjpaaGreat
/- A site over an image, with a few blocks that nobody has, in the law of scans: what holds meanwhile. -/
namespace Go.Proofs.YtjmaicckkkdjpaaGreat
open Go.RowKit
theorem info_addr:(Tryz.prog.info? 62).map (fun i=>(i.zero,i.size,i.bytes))=some (some (.int .u64 0),1,8):=by kernel_rfl
def addrV (x:Int):Value:= .int .u64 x
structure OvI (w:World) (N1 n si m:Nat) (MB:MB) (M:MemS) (S:SB) (size:Int) (wb:Nat) (av:Value) (gs gt:List Int) (sp:Value) (W:World):Prop where
 sl: ∃A V,SlabIs W N1 S V size A∧RoomI A n 1 gt∧roomSA A 1≤3000∧(∀x,sp.ownBlock=some x→x∉foot S V)∧wb∉foot S V∧si∉foot S V
 row:W.ownsRow w.heap.size 62 1 sp gs.length (gs.map addrV)
 spo: ∀x,sp.ownBlock=some x→N1≤x∧x≠wb∧x≠si
 blk:Blk W wb 92 #[av,ptrV si,ptrV m,sp]
 site:W.cell? ⟨si,0,none⟩=some (ptrV m)
 mem:MemIs W m MB M
 ne:si≠wb
 low: ∀k∈footM m MB M,w.heap.size≤k∧k<N1
 lo:w.heap.size≤N1∧N1≤si∧N1≤wb
 bel:Below w.heap.size w W
theorem own_lt2 {w:World} {base:Nat} {e:TypeId} {size n:Nat} {v:Value} {xs:List Value} (h:w.ownsRow base e size v n xs): ∀k,v.ownBlock=some k→k<w.heap.size:=by
 intro k hk
 rcases h.2 with⟨rfl,_⟩ | ⟨gB,capB,curB,rfl,hgB,hhB,_⟩
 ·simp[Value.ownBlock] at hk
 ·simp[Value.ownBlock] at hk
  rw[←hk]
  exact(Array.getElem?_eq_some_iff.1 hhB).1
theorem ov_cell {W W':World} (hb:Below W.heap.size W W') {p:Addr} {v:Value} (h:W.cell? p=some v):W'.cell? p=some v:=(hb.cell (World.block_lt_of_cell? _ _ h)).trans h
theorem bytesIn_bel {w w':World} {p:Option Addr} {cap:Nat} {bs:List Int} (h:BytesIn w p cap bs) (hb:Below w.heap.size w w'):BytesIn w' p cap bs:=
 ⟨h.1,h.2.1,fun h0=>by
  obtain⟨b,off,h1,h2,h3⟩:=h.2.2 h0
  exact⟨b,off,h1,Nat.lt_of_lt_of_le h2 hb.size,fun i x hx=>ov_cell hb (h3 i x hx)⟩⟩
theorem OvI.sil {w W:World} {N1 n si m:Nat} {MB:MB} {M:MemS} {S:SB} {size:Int} {wb:Nat} {av:Value} {gs gt:List Int} {sp:Value} (h:OvI w N1 n si m MB M S size wb av gs gt sp W):si<W.heap.size:=World.block_lt_of_cell? _ _ h.site
theorem OvI.rsv {w W W':World} {N1 n si m:Nat} {MB:MB} {M:MemS} {S:SB} {size:Int} {wb:Nat} {av:Value} {gs gt gt':List Int} {sp:Value} (h:OvI w N1 n si m MB M S size wb av gs gt sp W) {A A':SA} {V V':Nat→Value} (hs:SlabIs W N1 S V size A) (hV:(∀x,sp.ownBlock=some x→x∉foot S V)∧wb∉foot S V∧si∉foot S V) (hs':SlabIs W' N1 S V' size A') (hr:RoomI A' n 1 gt') (hn:roomSA A' 1≤3000) (hm:Moved S V V' W W'):OvI w N1 n si m MB M S size wb av gs gt' sp W':=by
 have hlo: ∀x∈foot S V,N1≤x:=fun x hx=>by obtain⟨i,hi⟩:=foot_mem.1 hx;exact hs.lo i x hi
 have new: ∀{x:Nat},x<W.heap.size→x∉foot S V→x∉foot S V':=fun hx hn hm'=>by
  rcases hm.foot _ hm' with q | q
  ·exact hn q
  ·omega
 refine⟨⟨A',V',hs',hr,hn,fun x hx=>new ((own_lt2 h.row x hx)) (hV.1 x hx),new h.blk.lt hV.2.1,new h.sil hV.2.2⟩,hm.only.own h.row hV.1,h.spo,hm.only.blk h.blk hV.2.1,(hm.only.cell (p:=⟨si,0,none⟩) h.sil hV.2.2).trans h.site,h.mem.only hm.only (fun k hk hf=> ?_),h.ne,h.low,h.lo,?_⟩
 ·have:=hlo k hf;have:=(h.low k hk).2;omega
 ·exact h.bel.trans (hm.only.below (fun x hx=>by have:=hlo x hx;have:=h.lo.1;omega) h.bel.size)
theorem OvI.app {w W W7:World} {N1 n si m:Nat} {MB:MB} {M:MemS} {S:SB} {size:Int} {wb:Nat} {av:Value} {gs gt:List Int} {a:Int} {sp v':Value} (h:OvI w N1 n si m MB M S size wb av gs gt sp W)
  (hg:(W.alloc (.cells #[.int .u64 a] 62)).grownBy W7 sp.ownBlock) (hown:W7.ownsRow w.heap.size 62 1 v' (gs.length+1) ((gs++[a]).map addrV)) (hat:v'.ownBlock=sp.ownBlock∨v'.ownBlock=some (W.alloc (.cells #[.int .u64 a] 62)).heap.size):
  Blk W7 wb 92 #[av,ptrV si,ptrV m,sp]∧OvI w N1 n si m MB M S size wb av (gs++[a]) gt v' (W7.setCell ⟨wb,3,none⟩ v'):=by
 have hal:Below W.heap.size W (W.alloc (.cells #[.int .u64 a] 62)):=ba (Below.refl _ _) _
 have ho:Only sp.ownBlock.toList (W.alloc (.cells #[.int .u64 a] 62)) W7:=Only.of_grown hg (fun x hx=>Option.mem_toList.2 hx)
 have ho2:Only sp.ownBlock.toList W W7:=(Only.of_below hal _).trans ho (fun x hx=>Or.inl hx)
 have hwb:wb∉sp.ownBlock.toList:=fun hx=>(h.spo wb (Option.mem_toList.1 hx)).2.1 rfl
 have k7:=ho2.blk h.blk hwb
 have hset:Only [wb] W7 (W7.setCell ⟨wb,3,none⟩ v'):=(Only.refl _ _).setCell (Or.inl (by simp)) v'
 have ho3:Only (wb::sp.ownBlock.toList) W (W7.setCell ⟨wb,3,none⟩ v'):=(Only.mono ho2 (fun x hx=>List.mem_cons_of_mem _ hx)).trans hset (fun x hx=>Or.inl (by simp at hx;simp[hx]))
 have hv: ∀x,v'.ownBlock=some x→N1≤x∧x≠wb∧x≠si:=fun x hx=>by
  rcases hat with e | e
  ·exact h.spo x (e.symm.trans hx)
  ·rw[e,World.size_alloc] at hx
   injection hx with hx
   have h1:=h.blk.lt
   have h2:=h.sil
   have h3:=h.lo
   omega
 obtain⟨A,V,q1,q2,q3,q4,q5,q6⟩:=h.sl
 have hno: ∀k∈wb::sp.ownBlock.toList,k∉foot S V:=fun k hk=>by
  rcases List.mem_cons.1 hk with rfl | hk
  ·exact q5
  ·exact q4 k (Option.mem_toList.1 hk)
 refine⟨k7,⟨A,V,q1.only ho3 (fun i k hi hm=>hno k hm (foot_mem.2 ⟨i,hi⟩)),q2,q3,fun x hx=> ?_,q5,q6⟩,?_,hv,?_,?_,?_,h.ne,h.low,h.lo,?_⟩
 ·rcases hat with e | e
  ·exact q4 x (e.symm.trans hx)
  ·rw[e,World.size_alloc] at hx
   injection hx with hx
   intro hm
   obtain⟨i,hi⟩:=foot_mem.1 hm
   have:=q1.lt hi
   omega
 ·rw[List.length_append]
  exact hset.own hown (fun k hk hm=>by simp at hm;exact(hv k hk).2.1 hm)
 ·exact k7.set_ 3 v'
 ·refine(ho3.cell (p:=⟨si,0,none⟩) h.sil ?_).trans h.site
  intro hm
  rcases List.mem_cons.1 hm with e | e
  ·exact h.ne e
  ·exact(h.spo si (Option.mem_toList.1 e)).2.2 rfl
 ·refine h.mem.only ho3 (fun k hk hm=> ?_)
  have:=(h.low k hk).2
  rcases List.mem_cons.1 hm with rfl | e
  ·have:=h.lo.2.2;omega
  ·have:=(h.spo k (Option.mem_toList.1 e)).1;omega
 ·refine h.bel.trans (ho3.below (fun x hx=> ?_) h.bel.size)
  rcases List.mem_cons.1 hx with rfl | e
  ·have:=h.lo;omega
  ·have:=(h.spo x (Option.mem_toList.1 e)).1;have:=h.lo.1;omega
end Go.Proofs.YtjmaicckkkdjpaaGreat
