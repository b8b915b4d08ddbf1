import Derived.Test.YtjmaicckkkdjpaaGreatF06
import Derived.Carry
import Derived.MapKept
import Derived.Deep.WholeRow
/- A memory of words: what it is; its plain questions. -/
set_option maxRecDepth 100000
set_option maxHeartbeats 400000
set_option linter.unusedVariables false
set_option linter.unusedSimpArgs false
namespace Go.Proofs.YtjmaicckkkdjpaaGreat
open Go.RowKit
structure MB where
 vb:Nat
 vc:Nat
 ib:Nat
 ic:Nat
 lb:Nat
structure St4 where
 a:Int
 b:Int
 c:Int
 d:Int
def memC (B:MB) (n:Nat) (s:St4):Array Value:= #[.slice (some ⟨B.vb,0,none⟩) n B.vc,.slice (some ⟨B.ib,0,none⟩) n B.ic,.map (some B.lb),.int .u64 s.a,.int .u64 s.b,.int .u64 s.c,.int .u64 s.d]
abbrev ptrV (m:Nat):Value:= .pointer (some ⟨m,0,none⟩)
theorem there_z (m:Nat) (B:MB) (n:Nat) (s:St4) (hn:0<n) (w:World) (h:Blk w m 124 (memC B n s)):
  Calls Tryz.prog 45 #[ptrV m] w fun e w'=>e= .returned (.bool true)∧w=w':=by
 have x0:w.cell? ⟨m,0,none⟩=some (.slice (some ⟨B.vb,0,none⟩) n B.vc):=h.cell 0
 have i0:(n:Int)>0:=by omega
 clear h
 go_enter Tryz.func45,Tryz.ntmps45
 go_wp2
 go_ret
 exact⟨rfl,rfl⟩
theorem Size_m (m:Nat) (B:MB) (n:Nat) (s:St4) (hn:0<n) (hb:n≤131072) (w:World) (h:Blk w m 124 (memC B n s)):
  Calls Tryz.prog 104 #[ptrV m] w fun e w'=>e= .returned (.int .i64 (8*n:Nat))∧w=w':=by
 have x0:w.cell? ⟨m,0,none⟩=some (.slice (some ⟨B.vb,0,none⟩) n B.vc):=h.cell 0
 have H:=hid h
 clear h
 go_enter Tryz.func104,Tryz.ntmps104
 go_wp2_with fail
 refine(there_z m B n s hn _ H.out).mono ?_
 rintro e w1 ⟨rfl,rfl⟩
 go_wp2
 go_ret
 exact⟨by congr 2,rfl⟩
theorem Stats_m (m:Nat) (B:MB) (n:Nat) (s:St4) (hn:0<n) (w:World) (h:Blk w m 124 (memC B n s)):
  Calls Tryz.prog 77 #[ptrV m] w fun e w'=>e= .returned (.agg #[.int .u64 s.a,.int .u64 s.b,.int .u64 s.c,.int .u64 s.d])∧Below w.heap.size w w':=by
 have H:=hid (h.alloc (.cells #[.int .u64 0,.int .u64 0,.int .u64 0,.int .u64 0] 122))
 have x3:(w.alloc (.cells #[.int .u64 0,.int .u64 0,.int .u64 0,.int .u64 0] 122)).cell? ⟨m,3,none⟩=some (.int .u64 s.a):=H.out.cell 3
 have x4:(w.alloc (.cells #[.int .u64 0,.int .u64 0,.int .u64 0,.int .u64 0] 122)).cell? ⟨m,4,none⟩=some (.int .u64 s.b):=H.out.cell 4
 have x5:(w.alloc (.cells #[.int .u64 0,.int .u64 0,.int .u64 0,.int .u64 0] 122)).cell? ⟨m,5,none⟩=some (.int .u64 s.c):=H.out.cell 5
 have x6:(w.alloc (.cells #[.int .u64 0,.int .u64 0,.int .u64 0,.int .u64 0] 122)).cell? ⟨m,6,none⟩=some (.int .u64 s.d):=H.out.cell 6
 clear h
 go_enter Tryz.func77,Tryz.ntmps77
 go_wp2_with fail
 refine(there_z m B n s hn _ H.out).mono ?_
 rintro e w1 ⟨rfl,rfl⟩
 go_wp2
 refine bodyPost_ret (v:= .agg #[.int .u64 s.a,.int .u64 s.b,.int .u64 s.c,.int .u64 s.d]) ?_ rfl ?_
 ·simp[results,Tryz.results77,go_sem]
 ·exact⟨rfl,ba (Below.refl _ _) _⟩
def atE (n:Nat) (a:Int):Int:=if a % 8=0∧a/8<n then 0 else 3
theorem at_z (m:Nat) (B:MB) (n:Nat) (s:St4) (hn:0<n) (hb:n≤131072) (a:Int) (ha:0≤a) (ha2:a<18446744073709551616) (w:World) (h:Blk w m 124 (memC B n s)):
  Calls Tryz.prog 56 #[ptrV m,.int .u64 a] w fun e w'=>e= .returned (.int .i64 (atE n a))∧w=w':=by
 have x0:w.cell? ⟨m,0,none⟩=some (.slice (some ⟨B.vb,0,none⟩) n B.vc):=h.cell 0
 have H:=hid h
 clear h
 by_cases h1:a % 8=0
 ·by_cases h2:a/8<n
  ·have hz:=hid (show atE n a=0 from if_pos ⟨h1,h2⟩)
   have h3: ¬(a/8≥(n:Int)):=by omega
   go_enter Tryz.func56,Tryz.ntmps56
   go_wp2_with fail
   refine(there_z m B n s hn _ H.out).mono ?_
   rintro e w1 ⟨rfl,rfl⟩
   go_wp2
   go_ret
   exact⟨by rw[hz.out];rfl,rfl⟩
  ·have hz:=hid (show atE n a=3 from if_neg fun h=>h2 h.2)
   have h3:a/8≥(n:Int):=by omega
   go_enter Tryz.func56,Tryz.ntmps56
   go_wp2_with fail
   refine(there_z m B n s hn _ H.out).mono ?_
   rintro e w1 ⟨rfl,rfl⟩
   go_wp2
   go_ret
   exact⟨by rw[hz.out];rfl,rfl⟩
 ·have hz:=hid (show atE n a=3 from if_neg fun h=>h1 h.1)
  go_enter Tryz.func56,Tryz.ntmps56
  go_wp2_with fail
  refine(there_z m B n s hn _ H.out).mono ?_
  rintro e w1 ⟨rfl,rfl⟩
  go_wp2
  go_ret
  exact⟨by rw[hz.out];rfl,rfl⟩
theorem begin_z (a:Int) (ha:0≤a) (ha2:a<18446744073709551616) (w:World):Calls Tryz.prog 57 #[.int .u64 a] w fun e w'=>e= .returned (.int .u64 (a-a % 64))∧w=w':=by
 go_enter Tryz.func57,Tryz.ntmps57
 go_wp2
 go_ret
 exact⟨by congr 2,rfl⟩
def clientE (c:Int):Int:=if 0≤c∧c≤64 then 0 else 2
theorem client_z (c:Int) (w:World):Calls Tryz.prog 83 #[.int .i64 c] w fun e w'=>e= .returned (.int .i64 (clientE c))∧w=w':=by
 by_cases h1:c<0
 ·have hz:=hid (show clientE c=2 from if_neg (by omega))
  go_enter Tryz.func83,Tryz.ntmps83
  go_wp2
  go_ret
  exact⟨by rw[hz.out];rfl,rfl⟩
 ·by_cases h2:c>64
  ·have hz:=hid (show clientE c=2 from if_neg (by omega))
   go_enter Tryz.func83,Tryz.ntmps83
   go_wp2
   go_ret
   exact⟨by rw[hz.out];rfl,rfl⟩
  ·have hz:=hid (show clientE c=0 from if_pos (by omega))
   go_enter Tryz.func83,Tryz.ntmps83
   go_wp2
   go_ret
   exact⟨by rw[hz.out];rfl,rfl⟩
def WrdsAt (w:World) (b:Nat) (xs:List Int):Prop:= ∃cur:Array Value,Blk w b 25 cur∧ ∀(i:Nat) (x:Int),xs[i]?=some x→cur[i]?=some (Value.int .u64 x)
theorem WrdsAt.cell {w:World} {b:Nat} {xs:List Int} (h:WrdsAt w b xs) {i:Nat} {x:Int} (hx:xs[i]?=some x):w.cell? ⟨b,i,none⟩=some (.int .u64 x):=by
 obtain⟨cur,h1,h2⟩:=h
 rw[h1.cell];exact h2 i x hx
theorem WrdsAt.frozen {w:World} {b:Nat} {xs:List Int} (h:WrdsAt w b xs) (i:Nat):w.frozen? ⟨b,i,none⟩=false:=by
 obtain⟨cur,h1,h2⟩:=h
 exact h1.frozen i
theorem WrdsAt.lt {w:World} {b:Nat} {xs:List Int} (h:WrdsAt w b xs):b<w.heap.size:=by obtain⟨cur,h1,_⟩:=h;exact h1.lt
theorem WrdsAt.only {f:List Nat} {w w':World} {b:Nat} {xs:List Int} (h:WrdsAt w b xs) (ho:Only f w w') (hb:b∉f):WrdsAt w' b xs:=by
 obtain⟨cur,h1,h2⟩:=h
 exact⟨cur,ho.blk h1 hb,h2⟩
theorem WrdsAt.set_ {w:World} {b:Nat} {xs:List Int} (h:WrdsAt w b xs) (i:Nat) (x:Int):WrdsAt (w.setCell ⟨b,i,none⟩ (.int .u64 x)) b (xs.set i x):=by
 obtain⟨cur,h1,h2⟩:=h
 refine⟨_,h1.set_ i (.int .u64 x),fun j y hy=> ?_⟩
 rw[List.getElem?_set] at hy
 rw[Array.getElem?_setIfInBounds]
 split at hy
 ·rename_i e
  subst e
  split at hy
  ·rename_i hl
   injection hy with hy;subst hy
   obtain⟨z,hz⟩: ∃z,xs[i]?=some z:=⟨xs[i],List.getElem?_eq_getElem hl⟩
   have:=(Array.getElem?_eq_some_iff.1 (h2 i z hz)).1
   simp[this]
  ·cases hy
 ·rename_i e
  rw[if_neg e];exact h2 j y hy
structure LineA where
 adr:Nat
 g:Nat
 o:Nat
 cap:Nat
 ps:List (Nat×Int)
 ks:List Nat
 born:Nat
def marksC (ks:List Nat):List Value:=ks.map fun(k:Nat)=>Value.int .i64 (k:Int)
def lineC (L:LineA):Array Value:=(Value.slice (some ⟨L.g,L.o,none⟩) L.ps.length L.cap::marksC L.ks).toArray
def lineE (L:LineA):MapEntry:={ key:= .int .u64 (L.adr:Int),val:= .agg (lineC L),born:=L.born }
def putC2 (ps:List (Nat×Int)):List Value:=ps.flatMap fun p=>[.int .u64 (p.1:Int),.int .u64 p.2]
def RowP (w:World) (L:LineA):Prop:= ∃cur:Array Value,Blk w L.g 72 cur∧L.ps.length≤L.cap∧L.o+L.cap*2≤cur.size∧(cur.toList.drop L.o).take (L.ps.length*2)=putC2 L.ps
theorem RowP.only {f:List Nat} {w w':World} {L:LineA} (h:RowP w L) (ho:Only f w w') (hb:L.g∉f):RowP w' L:=by
 obtain⟨cur,h1,h2⟩:=h
 exact⟨cur,ho.blk h1 hb,h2⟩
structure LineOK (n:Nat) (L:LineA):Prop where
 adr:L.adr % 64=0
 some_:L.ps≠[]
 puts: ∀p∈L.ps,p.1 % 8=0∧p.1/8<n∧p.1-p.1 % 64=L.adr
 marks:L.ks.length=65
 most: ∀k∈L.ks,k≤L.ps.length
structure MemS where
 view:List Int
 image:List Int
 lines:List LineA
 clock:Nat
 st:St4
def footM (m:Nat) (B:MB) (M:MemS):List Nat:=m::B.vb::B.ib::B.lb::M.lines.map (·.g)
structure MemIs (w:World) (m:Nat) (B:MB) (M:MemS):Prop where
 blk:Blk w m 124 (memC B M.view.length M.st)
 pos:0<M.view.length
 big:M.view.length≤131072
 len:M.image.length=M.view.length
 view:WrdsAt w B.vb M.view
 image:WrdsAt w B.ib M.image
 map:w.heap[B.lb]?=some (.map (M.lines.map lineE).toArray M.clock)
 rows: ∀L∈M.lines,RowP w L
 ok: ∀L∈M.lines,LineOK M.view.length L
 keys:M.lines.Pairwise fun a b=>a.adr≠b.adr
 born:M.lines.Pairwise fun a b=>a.born≠b.born
 old: ∀L∈M.lines,L.born<M.clock
 apart:(footM m B M).Nodup
theorem MemIs.foot_lt {w:World} {m:Nat} {B:MB} {M:MemS} (h:MemIs w m B M): ∀k∈footM m B M,k<w.heap.size:=by
 intro k hk
 simp only[footM,List.mem_cons,List.mem_map] at hk
 rcases hk with rfl | rfl | rfl | rfl | ⟨L,hL,rfl⟩
 ·exact h.blk.lt
 ·exact h.view.lt
 ·exact h.image.lt
 ·exact(Array.getElem?_eq_some_iff.1 h.map).1
 ·obtain⟨cur,h1,_⟩:=h.rows L hL;exact h1.lt
theorem MemIs.only {f:List Nat} {w w':World} {m:Nat} {B:MB} {M:MemS} (h:MemIs w m B M) (ho:Only f w w') (hf: ∀k∈footM m B M,k∉f):MemIs w' m B M:=by
 have f0:=hf m (by simp[footM])
 have f1:=hf B.vb (by simp[footM])
 have f2:=hf B.ib (by simp[footM])
 have f3:=hf B.lb (by simp[footM])
 exact{ h with
  blk:=ho.blk h.blk f0
  view:=h.view.only ho f1
  image:=h.image.only ho f2
  map:=(ho.block _ (h.foot_lt _ (by simp[footM])) f3).trans h.map
  rows:=fun L hL=>(h.rows L hL).only ho (hf L.g (by simp only[footM,List.mem_cons,List.mem_map];exact Or.inr (Or.inr (Or.inr (Or.inr ⟨L,hL,rfl⟩))))) }
theorem MemIs.counts {w w':World} {m:Nat} {B:MB} {M:MemS} (h:MemIs w m B M) (ho:Only [m] w w') {s:St4} (hb:Blk w' m 124 (memC B M.view.length s)):MemIs w' m B { M with st:=s }:=by
 have hnd:m∉B.vb::B.ib::B.lb::M.lines.map (·.g):=(List.nodup_cons.1 h.apart).1
 have ne: ∀k∈B.vb::B.ib::B.lb::M.lines.map (·.g),k∉ [m]:=fun k hk hm=>by
  rw[List.mem_singleton] at hm;subst hm;exact hnd hk
 exact{ h with
  blk:=hb
  view:=h.view.only ho (ne _ (by simp))
  image:=h.image.only ho (ne _ (by simp))
  map:=(ho.block _ (h.foot_lt _ (by simp[footM])) (ne _ (by simp))).trans h.map
  rows:=fun L hL=>(h.rows L hL).only ho (ne L.g (by simp only[List.mem_cons,List.mem_map];exact Or.inr (Or.inr (Or.inr ⟨L,hL,rfl⟩)))) }
theorem Load_z (m:Nat) (B:MB) (M:MemS) (k:Nat) (hk:k<M.view.length) (w:World) (h:MemIs w m B M):
  Calls Tryz.prog 152 #[ptrV m,.int .u64 (8*(k:Int))] w fun e w'=>
   e= .returned (.tuple #[.int .u64 (M.view[k]'hk),.int .i64 0])∧ ∃s,s.a=(M.st.a+1)% 18446744073709551616∧s.b=M.st.b∧s.c=M.st.c∧s.d=M.st.d∧MemIs w' m B { M with st:=s }∧Only [m] w w':=by
 have hbig:=h.big
 have x0:w.cell? ⟨m,0,none⟩=some (.slice (some ⟨B.vb,0,none⟩) M.view.length B.vc):=h.blk.cell 0
 have x3:w.cell? ⟨m,3,none⟩=some (.int .u64 M.st.a):=h.blk.cell 3
 have x3f:=h.blk.frozen 3
 have xv:w.cell? ⟨B.vb,k,none⟩=some (.int .u64 (M.view[k]'hk)):=h.view.cell (List.getElem?_eq_getElem hk)
 have ne:B.vb≠m:=fun e=>(List.nodup_cons.1 h.apart).1 (by rw[←e];simp)
 have i1:(8*(k:Int))/8=k:=by omega
 have i2:(8*(k:Int))% 8=0:=by omega
 have i3:(0:Int)≤k:=by omega
 have i4:(k:Int)< (M.view.length:Int):=by omega
 have hz:=hid (show atE M.view.length (8*(k:Int))=0 from if_pos ⟨by omega,by omega⟩)
 obtain⟨n,hn⟩: ∃n,n=M.view.length:=⟨_,rfl⟩
 obtain⟨V,hV⟩: ∃V,V=M.view[k]'hk:=⟨_,rfl⟩
 have H:=hid h
 have HV:=hid hV
 clear h
 go_enter Tryz.func152,Tryz.ntmps152
 go_wp2_with fail
 refine(at_z m B M.view.length M.st H.out.pos hbig (8*(k:Int)) (by omega) (by omega) _ H.out.blk).mono ?_
 rintro e w1 ⟨rfl,rfl⟩
 rw[hz.out]
 go_wp2
 go_ret2
 refine⟨rfl,⟨(M.st.a+1)% 18446744073709551616,M.st.b,M.st.c,M.st.d⟩,rfl,rfl,rfl,rfl,?_,?_⟩
 ·exact H.out.counts ((Only.refl _ _).setCell (Or.inl (by simp)) _) (H.out.blk.set_ 3 _)
 ·exact(Only.refl _ _).setCell (Or.inl (by simp)) _
def lineZ:Array Value:=(Value.slice none 0 0::List.replicate 65 (.int .i64 0)).toArray
theorem line_info:(Tryz.prog.info? 143).map (fun i=>(i.zero,i.size))=some (some (.agg lineZ),66):=by kernel_rfl
theorem line_zero: ∀w,(zeroValue 143).run Tryz.prog w= .ok (.agg lineZ) w:=(zero_of_info line_info).1
theorem line_size:(Tryz.prog.info? 143).map (·.size)=some 66:=(zero_of_info line_info).2
theorem sizeOf_info {P:Program} {t:TypeId} {n:Nat} (h:(P.info? t).map (·.size)=some n): ∀w,(sizeOf t).run P w= .ok n w:=fun w=>by
 cases hq:P.info? t with
 | none=>rw[hq] at h;cases h
 | some i=>rw[hq] at h;have h:some i.size=some n:=h;injection h with h;simp[sizeOf,typeInfo,program,Sem.run,hq,h]
theorem line_sizeOf: ∀w,(sizeOf 143).run Tryz.prog w= .ok 66 w:=sizeOf_info line_size
theorem lineZ_size:lineZ.size=66:=by rfl
theorem find_none {M:MemS} {adr:Nat} (h: ∀L∈M.lines,L.adr≠adr):Instr.findNow (.int .u64) (.int .u64 (adr:Int)) (M.lines.map lineE) 0=some none:=by
 refine findU_none fun e he=> ?_
 obtain⟨L,hL,rfl⟩:=List.mem_map.1 he
 exact⟨L.adr,rfl,fun hc=>h L hL (by omega)⟩
theorem Flush_none (m:Nat) (B:MB) (M:MemS) (c k:Nat) (hc:c≤64) (hk:k<M.view.length) (hno: ∀L∈M.lines,L.adr≠8*k-8*k % 64) (w:World) (h:MemIs w m B M):
  Calls Tryz.prog 52 #[ptrV m,.int .i64 (c:Int),.int .u64 (8*(k:Int))] w fun e w'=>
   e= .returned (.int .i64 0)∧ ∃s,s.a=M.st.a∧s.b=M.st.b∧s.c=(M.st.c+1)% 18446744073709551616∧s.d=M.st.d∧MemIs w' m B { M with st:=s }∧Only [m] w w':=by
 have hbig:=h.big
 have x2:w.cell? ⟨m,2,none⟩=some (.map (some B.lb)):=h.blk.cell 2
 have x5:w.cell? ⟨m,5,none⟩=some (.int .u64 M.st.c):=h.blk.cell 5
 have x5f:=h.blk.frozen 5
 have hz:=hid (show atE M.view.length (8*(k:Int))=0 from if_pos ⟨by omega,by omega⟩)
 have hcz:=hid (show clientE (c:Int)=0 from if_pos ⟨by omega,by omega⟩)
 have z378:=line_zero
 have s378:=line_sizeOf
 have n378:=lineZ_size
 have H:=hid h
 clear h
 go_enter Tryz.func52,Tryz.ntmps52
 go_wp2_with fail
 refine(there_z m B M.view.length M.st H.out.pos _ H.out.blk).mono ?_
 rintro e w1 ⟨rfl,rfl⟩
 go_wp2_with fail
 refine(client_z (c:Int) _).mono ?_
 rintro e w1 ⟨rfl,rfl⟩
 rw[hcz.out]
 go_wp2_with fail
 refine(at_z m B M.view.length M.st H.out.pos hbig (8*(k:Int)) (by omega) (by omega) _ H.out.blk).mono ?_
 rintro e w1 ⟨rfl,rfl⟩
 rw[hz.out]
 go_wp2
 obtain⟨W1,hW1⟩: ∃W1,W1=w.setCell ⟨m,5,none⟩ (.int .u64 (IntKind.u64.wrap (M.st.c+1))):=⟨_,rfl⟩
 rw[←hW1]
 have H1:Hid (MemIs W1 m B { M with st:=⟨M.st.a,M.st.b,IntKind.u64.wrap (M.st.c+1),M.st.d⟩ }):=by
  rw[hW1];exact H.out.counts ((Only.refl _ _).setCell (Or.inl (by simp)) _) (H.out.blk.set_ 5 _)
 have HW1:=hid hW1
 clear hW1
 have y2:W1.drew.cell? ⟨m,2,none⟩=some (.map (some B.lb)):=H1.out.blk.drew.cell 2
 have y2':(W1.alloc (.cells lineZ 143)).drew.cell? ⟨m,2,none⟩=some (.map (some B.lb)):=(H1.out.blk.drew.alloc _).cell 2
 have hf:=find_none hno
 have hlk0: ∀W:World,W.heap[B.lb]?=some (.map (M.lines.map lineE).toArray M.clock)→(Instr.lookup 120 (.map (some B.lb)) (.int .u64 (8*(k:Int)-8*(k:Int)% 64)) true).run Tryz.prog W= .ok (.tuple #[.agg lineZ,.bool false]) W:=by
  intro W hW
  have:=run_lookU_none (P:=Tryz.prog) W 120 62 143 Tryz.underlying120 Tryz.underlying62 B.lb _ _ hW ((8*k-8*k % 64:Nat):Int) (.agg lineZ) true (by kernel_rfl) (by simpa using hf)
  have e:((8*k-8*k % 64:Nat):Int)=8*(k:Int)-8*(k:Int)% 64:=by omega
  rw[e] at this;exact this
 have hlk:=hlk0 W1.drew H1.out.map
 have hlk':=hlk0 (W1.alloc (.cells lineZ 143)).drew (by show(W1.alloc _).heap[B.lb]?=_;rw[Below.heap_alloc W1 _ _ (H1.out.foot_lt _ (by simp[footM]))];exact H1.out.map)
 clear hlk0
 have hst:(storeCells ⟨W1.heap.size,0,none⟩ lineZ.toList 0).run Tryz.prog (W1.alloc (.cells lineZ 143)).drew= .ok () (W1.alloc (.cells lineZ 143)).drew:=run_storeCells_new (P:=Tryz.prog) W1.drew 143 lineZ lineZ line_size rfl (by decide+kernel)
 clear x2 x5 x5f hf hno
 go_region_with (first
  | (go_at_call 57;refine(begin_z (8*(k:Int)) (by omega) (by omega) _).mono ?_;rintro e w2 ⟨rfl,rfl⟩))
 all_goals
  try go_simp
  try simp only[Act.put,List.setIfInBounds_toArray,List.set_cons_zero,List.set_cons_succ]
  go_wp2
  go_ret
  refine⟨rfl,⟨M.st.a,M.st.b,IntKind.u64.wrap (M.st.c+1),M.st.d⟩,rfl,rfl,rfl,rfl,H1.out.only (((Only.refl [] W1).alloc _).drew) (fun k _ hk=>by cases hk),?_⟩
  rw[HW1.out]
  exact((((Only.refl _ _).setCell (Or.inl (by simp)) _).alloc _).drew)
theorem line_isAgg: ∀w,(isAgg 143).run Tryz.prog w= .ok true w:=fun w=>by
 unfold isAgg
 simp[run_underlying Tryz.underlying143]
theorem find_line {M:MemS} {pre post:List LineA} {L:LineA} (hM:M.lines=pre++L::post) (hk:M.lines.Pairwise fun a b=>a.adr≠b.adr):
  Instr.findNow (.int .u64) (.int .u64 (L.adr:Int)) (M.lines.map lineE) 0=some (some (pre.length,.agg (lineC L))):=by
 rw[hM] at hk ⊢
 rw[List.map_append,List.map_cons]
 have:=findU_at (k:=(L.adr:Int)) (e:=lineE L) (post:=post.map lineE) rfl (pre:=pre.map lineE) (i:=0) (fun e he=>by
  obtain⟨L',hL',rfl⟩:=List.mem_map.1 he
  refine⟨L'.adr,rfl,fun hc=> ?_⟩
  have:=(List.pairwise_append.1 hk).2.2 L' hL' L (List.mem_cons_self ..)
  omega)
 rw[this]
 simp[lineE]
theorem lineC_size {n:Nat} {L:LineA} (h:LineOK n L):(lineC L).size=66:=by simp[lineC,marksC,h.marks]
theorem lineC_one (L:LineA):(lineC L).all (·.oneCell')=true:=by
 rw[Array.all_eq_true_iff_forall_mem]
 intro v hv
 simp only[lineC,List.mem_toArray,List.mem_cons,marksC,List.mem_map] at hv
 rcases hv with rfl | ⟨k,_,rfl⟩<;>rfl
theorem lineC_mark {L:LineA} {c:Nat} (k:Nat):(lineC L).setIfInBounds (c+1) (.int .i64 (k:Int))=lineC { L with ks:=L.ks.set c k }:=by
 unfold lineC marksC
 rw[List.setIfInBounds_toArray,List.set_cons_succ,List.map_set]
theorem loadCells_blk {P:Program} {w:World} {g:Nat} {t:TypeId} {cs:Array Value} {n:Nat} (h:Blk w g t cs) (hn:cs.size=n):(loadCellsFrom ⟨g,0,none⟩ 0 n #[]).run P w= .ok cs w:=by
 subst hn
 have:=run_loadCells_list (P:=P) w ⟨g,0,none⟩ cs.toList (fun j v hv=>by
  have hadd:(⟨g,0,none⟩:Addr).add j=⟨g,j,none⟩:=by unfold Addr.add;split<;>simp_all
  rw[hadd,h.cell]
  simpa using hv)
 simpa[loadCells] using this
theorem modify_at {α:Type} (f:α→α) (x:α) (post:List α): ∀pre:List α,(pre++x::post).modify pre.length f=pre++f x::post
 | []=>by simp
 | p::pre=>by simp[modify_at f x post pre]
theorem modify_lines {pre post:List LineA} {L L':LineA} (ha:L'.adr=L.adr) (hb:L'.born=L.born):
  (((pre++L::post).map lineE).toArray.modify pre.length fun e=>{ e with key:= .int .u64 (L.adr:Int),val:= .agg (lineC L') })=((pre++L'::post).map lineE).toArray:=by
 apply Array.ext'
 simp only[Array.toList_modify]
 rw[List.map_append,List.map_append,List.map_cons,List.map_cons]
 have hl:pre.length=(pre.map lineE).length:=by simp
 rw[hl,modify_at]
 simp[lineE,ha,hb]
theorem pairwise_mid {α β:Type} {R:β→β→Prop} (f:α→β) {pre post:List α} {x y:α} (h:f x=f y) (hp:(pre++x::post).Pairwise fun a b=>R (f a) (f b)):(pre++y::post).Pairwise fun a b=>R (f a) (f b):=by
 rw[List.pairwise_append,List.pairwise_cons] at hp ⊢
 refine⟨hp.1,⟨fun b hb=>by rw[←h];exact hp.2.1.1 b hb,hp.2.1.2⟩,fun a ha b hb=> ?_⟩
 rcases List.mem_cons.1 hb with rfl | hb
 ·rw[←h];exact hp.2.2 a ha x (List.mem_cons_self ..)
 ·exact hp.2.2 a ha b (List.mem_cons_of_mem _ hb)
theorem MemIs.lb_far {w:World} {m:Nat} {B:MB} {M:MemS} (h:MemIs w m B M):m≠B.lb∧B.vb≠B.lb∧B.ib≠B.lb∧ ∀L∈M.lines,L.g≠B.lb:=by
 have h1:=h.apart
 simp only[footM,List.nodup_cons,List.mem_cons,not_or,List.mem_map,not_exists,not_and] at h1
 exact⟨h1.1.2.2.1,h1.2.1.2.1,h1.2.2.1.1,fun L hL=>h1.2.2.2.1 L hL⟩
theorem MemIs.reline {w w':World} {m:Nat} {B:MB} {M:MemS} {pre post:List LineA} {L L':LineA} (h:MemIs w m B M) (hM:M.lines=pre++L::post) (ha:L'.adr=L.adr) (hg:L'.g=L.g) (hb:L'.born=L.born)
  (hw:w'=w.putObj B.lb (.map ((pre++L'::post).map lineE).toArray M.clock)) (hr:RowP w L→RowP w L') (hok:LineOK M.view.length L'):MemIs w' m B { M with lines:=pre++L'::post }:=by
 obtain⟨f0,f1,f2,f3⟩:=h.lb_far
 have ho:Only [B.lb] w w':=by rw[hw];exact(Only.refl _ _).putObj (Or.inl (by simp)) _
 have hL:L∈M.lines:=by rw[hM];simp
 have mem: ∀{p:LineA→Prop},(∀x∈M.lines,p x)→p L'→ ∀x∈pre++L'::post,p x:=by
  intro p h1 h2 x hx
  rw[hM] at h1
  rcases List.mem_append.1 hx with hx | hx
  ·exact h1 x (List.mem_append_left _ hx)
  ·rcases List.mem_cons.1 hx with rfl | hx
   ·exact h2
   ·exact h1 x (List.mem_append_right _ (List.mem_cons_of_mem _ hx))
 have hfoot:footM m B { M with lines:=pre++L'::post }=footM m B M:=by
  simp only[footM,hM,List.map_append,List.map_cons,hg]
 exact{ h with
  blk:=ho.blk h.blk (by simpa using f0)
  view:=h.view.only ho (by simpa using f1)
  image:=h.image.only ho (by simpa using f2)
  map:=by rw[hw];exact putObj_at h.map
  rows:=mem (p:=fun x=>RowP w' x) (fun x hx=>(h.rows x hx).only ho (by simpa using f3 x hx)) ((hr (h.rows L hL)).only ho (by simpa[hg] using f3 L hL))
  ok:=mem h.ok hok
  keys:=by have:=h.keys;rw[hM] at this;exact pairwise_mid (R:=fun a b=>a≠b) (fun x:LineA=>x.adr) ha.symm this
  born:=by have:=h.born;rw[hM] at this;exact pairwise_mid (R:=fun a b=>a≠b) (fun x:LineA=>x.born) hb.symm this
  old:=mem (p:=fun x=>x.born<M.clock) h.old (by rw[hb];exact h.old L hL)
  apart:=by rw[hfoot];exact h.apart }
end Go.Proofs.YtjmaicckkkdjpaaGreat
