/- The superblock read: the code's look.super. -/
import Derived.Test.YtibiekfjbibpbaaGreatLokL
import Derived.Test.YtibiekfjbibpbaaGreatSupM
import Derived.RangeFuncLeaves
import Derived.RangeFuncSeq
import Derived.RangeFuncRecord
import Derived.Test.YtibiekfjbibpbaaGreatRow
set_option maxRecDepth 100000
set_option maxHeartbeats 4000000
set_option linter.unusedVariables false
set_option linter.unusedSimpArgs false
namespace Go.Proofs.YtibiekfjbibpbaaGreat
open Go.RowKit
section
def supOK (bs:List Int):Prop:=wordsOk (wAt bs 0) (wAt bs 1) (wAt bs 2) (wAt bs 3) (wAt bs 4) (wAt bs 5) (wAt bs 6) (wAt bs 7)=true∧mayZ (wAt bs 1) (wAt bs 2) bs.length=true
theorem arr8L (v:Value):Instr.loadAt 52 v=ldM 52 v:=rfl
attribute [local go_sem ↓ high] arr8L
attribute [local go_sem] ldM_run lvM_run stM_run
theorem arr8At (b k c:Nat) (w:World):Sem.run Tryz.prog (Instr.arrayAt 52 (.slice (some ⟨b,k,none⟩) 8 c)) w= .ok (.pointer (some ⟨b,k,none⟩)) w:=by kernel_rfl
theorem wAt_in {bs:List Int} (hb: ∀x∈bs,0≤x∧x<256) {k:Nat} (hk:k<bs.length/8):0≤wAt bs k∧wAt bs k≤18446744073709551615:=by
 obtain⟨x,_,h1,h2⟩:=wordsN_at hb hk
 omega
theorem words8_ld {w:World} {wb:Nat} {bs:List Int} (hb: ∀x∈bs,0≤x∧x<256) (h:WordsAt w wb 0 (wordsN bs)) (hk:8≤bs.length/8):ldR Tryz.prog 52 (.pointer (some ⟨wb,0,none⟩)) w= .ok (words8 (wAt bs 0) (wAt bs 1) (wAt bs 2) (wAt bs 3) (wAt bs 4) (wAt bs 5) (wAt bs 6) (wAt bs 7)) w:=by
 have hr:w.rangeAt wb 0 [.int .u64 (wAt bs 0),.int .u64 (wAt bs 1),.int .u64 (wAt bs 2),.int .u64 (wAt bs 3),.int .u64 (wAt bs 4),.int .u64 (wAt bs 5),.int .u64 (wAt bs 6),.int .u64 (wAt bs 7)]:=by
  intro j v hv
  have hj:j<8:=(List.getElem?_eq_some_iff.1 hv).1
  obtain⟨x,hx,hxe,_⟩:=wordsN_at hb (k:=j) (by omega)
  have:=h.2 j x hx
  rw[this,hxe]
  rcases(by omega:j=0∨j=1∨j=2∨j=3∨j=4∨j=5∨j=6∨j=7) with rfl | rfl | rfl | rfl | rfl | rfl | rfl | rfl<;>exact hv
 have:=run_loadAt_mid (P:=Tryz.prog) w wb 0 52 _ _ hr Tryz.underlying52 rfl (by kernel_rfl)
 simpa[ldR,words8] using this
theorem LSuper_z (N:Nat) (B:LkP) (bs:List Int) (n:Nat) (hn:n=bs.length) (w:World) (h:LookIs w N B bs 0 (.slice none 0 0) (.slice none 0 0) []):
  Calls Tryz.prog 150 #[.pointer (some ⟨B.lb,0,none⟩),.int .i64 n] w fun e w'=>
   (supOK bs∧e= .returned (.tuple #[])∧LookIs w' N B bs (wAt bs 2) (.slice none 0 0) (.slice none 0 0) []∧Only [B.lb] w w')∨(¬supOK bs∧e= .panicked errC∧Below w.heap.size w w'):=by
 have c0:w.cell? ⟨B.lb,0,none⟩=some (.slice (some ⟨B.wb,0,none⟩) (bs.length/8) B.wc):=h.cells.cell 0
 have hln:=h.fix.nums
 have hwc:=h.fix.wc
 have hb:=h.fix.byte
 have hld:=words8_ld hb h.fix.words (by omega)
 have har:=arr8At B.wb 0 B.wc w
 have b0:=wAt_in hb (show 0<bs.length/8 by omega)
 have b1:=wAt_in hb (show 1<bs.length/8 by omega)
 have b2:=wAt_in hb (show 2<bs.length/8 by omega)
 have b3:=wAt_in hb (show 3<bs.length/8 by omega)
 have OF:=hid (Of_z (wAt bs 0) (wAt bs 1) (wAt bs 2) (wAt bs 3) (wAt bs 4) (wAt bs 5) (wAt bs 6) (wAt bs 7) w b1.1 b1.2 b2.1 b2.2)
 have MA:=hid (fun W=>SuMay_z (wAt bs 1) (wAt bs 2) bs.length W b1.1 b1.2 b2.1 b2.2 (by omega) (by omega))
 have i8:(8:Int)≤(B.wc:Int):=by omega
 have i8n:(8:Int)≤((bs.length/8:Nat):Int):=by omega
 obtain⟨q,hq⟩: ∃q,q=bs.length/8:=⟨_,rfl⟩
 rw[←hq] at c0 i8n
 have H:=hid h
 have HQ:=hid hq
 have HN:=hid hn
 have hwl:8≤B.wc:=by omega
 subst hn
 clear h hln hwc hb b0 b1 b2 b3 hq
 have MY:=hid Must_yes
 have MN:=hid Must_no
 have FI:Hid (∀W,Calls Tryz.prog 88 #[.int .i64 0] W fun e w'=>e= .returned (.bool true)∧W=w'):=hid (fun W=>Fine_z 0 W)
 have FN:Hid (∀W,Calls Tryz.prog 88 #[.int .i64 6] W fun e w'=>e= .returned (.bool false)∧W=w'):=hid (fun W=>Fine_z 6 W)
 obtain⟨r,hr⟩: ∃r,r=wAt bs 2:=⟨_,rfl⟩
 obtain⟨z,hz⟩: ∃z,z=wAt bs 1:=⟨_,rfl⟩
 cases hw:wordsOk (wAt bs 0) (wAt bs 1) (wAt bs 2) (wAt bs 3) (wAt bs 4) (wAt bs 5) (wAt bs 6) (wAt bs 7) with
 | false=>
  have OF':=OF.out
  rw[ofV_no hw] at OF'
  have OF:=hid OF'
  have HWO:=hid hw
  clear hw OF' hr hz
  go_enter Tryz.func150,Tryz.ntmps150
  go_wp2_with fail
  refine OF.out.mono ?_
  rintro e w1 ⟨rfl,hb1⟩
  have HB1:=hid hb1
  clear hb1
  go_wp2_with fail
  refine(FN.out _).mono ?_
  rintro e w2 ⟨rfl,rfl⟩
  go_wp2_with fail
  refine(MN.out _).mono ?_
  rintro e w2 ⟨rfl,rfl⟩
  refine⟨rfl,Or.inr ⟨fun hok=> ?_,rfl,?_⟩⟩
  ·have:=hok.1
   rw[HWO.out] at this
   cases this
  ·exact bx HB1.out (by(repeat(first | exact Below.refl _ _ | (refine ba ?_ _) | (refine Below.drew ?_) | (refine below_drewN ?_ _) | (refine Below.alloc ?_ (by first | omega | (simp;done) | (simp;omega)) _) | (refine Below.setCell ?_ (by first | omega | (simp;done) | (simp;omega)) _) | (refine bx ?_ (by assumption)) | (refine Below.trans ?_ (Below.mono (by assumption) (by first | omega | (simp;done) | (simp;omega)))))))
 | true=>
  have OF':=OF.out
  rw[ofV_yes hw,←hr,←hz] at OF'
  rw[←hr,←hz] at hld
  have OF:=hid OF'
  have MA':=MA.out
  rw[←hr,←hz] at MA'
  obtain⟨m,hm⟩: ∃m,m=mayZ z r bs.length:=⟨_,rfl⟩
  rw[←hm] at MA'
  have MA:=hid MA'
  have HWO:=hid (⟨hw,hr,hz,hm⟩:_∧_∧_∧_)
  clear hw OF' MA' hr hz hm
  go_enter Tryz.func150,Tryz.ntmps150
  go_wp2_with fail
  refine OF.out.mono ?_
  rintro e w1 ⟨rfl,hb1⟩
  have HB1:=hid hb1
  clear hb1
  obtain⟨W2,hW2⟩: ∃W2,W2=w1.alloc (.cells #[.int .u64 z,.int .u64 r] 187):=⟨_,rfl⟩
  have hb2:Below w1.heap.size w1 W2:=by rw[hW2];exact ba (Below.refl _ _) _
  have k2:Blk W2 w1.heap.size 187 #[.int .u64 z,.int .u64 r]:=by rw[hW2];exact Blk.new _ _ _
  have d0:W2.cell? ⟨w1.heap.size,0,none⟩=some (.int .u64 z):=k2.cell 0
  have d1:W2.cell? ⟨w1.heap.size,1,none⟩=some (.int .u64 r):=k2.cell 1
  have HB2:=hid (bx HB1.out hb2)
  have HK2:=hid k2
  have HW2:=hid hW2
  clear hb2 k2 hW2
  go_wp2_with fail
  rw[←HW2.out]
  refine(FI.out W2).mono ?_
  rintro e w3 ⟨rfl,rfl⟩
  go_wp2_with fail
  refine(MA.out W2).mono ?_
  rintro e w3 ⟨rfl,hb3⟩
  have e1:w3.cell? ⟨w1.heap.size,1,none⟩=some (.int .u64 r):=(HK2.out.bel hb3).cell 1
  have HB3:=hid (bx HB2.out hb3)
  clear hb3 d0 d1
  cases m
  ·go_wp2_with fail
   refine(MN.out w3).mono ?_
   rintro e w4 ⟨rfl,rfl⟩
   refine⟨rfl,Or.inr ⟨fun hok=> ?_,rfl,HB3.out⟩⟩
   have:=hok.2
   rw[←HWO.out.2.1,←HWO.out.2.2.1,←HWO.out.2.2.2] at this
   cases this
  ·go_wp2_with fail
   refine(MY.out w3).mono ?_
   rintro e w4 ⟨rfl,rfl⟩
   have h3:=H.out.bel HB3.out
   have g2:w3.cell? ⟨B.lb,2,none⟩=some (.int .u64 0):=h3.cells.cell 2
   have gf:w3.frozen? ⟨B.lb,2,none⟩=false:=h3.cells.frozen 2
   have hO:Only [B.lb] w3 (w3.setCell ⟨B.lb,2,none⟩ (.int .u64 r)):=(Only.refl _ _).setCell (Or.inl (by simp)) _
   have HR:Hid (LookIs (w3.setCell ⟨B.lb,2,none⟩ (.int .u64 r)) N B bs r (.slice none 0 0) (.slice none 0 0) []∧Only [B.lb] w (w3.setCell ⟨B.lb,2,none⟩ (.int .u64 r))):=by
    have hne:=h3.ne
    exact⟨⟨h3.cells.set_ 2 _,h3.fix.only hO (by simp;omega) (by simp;omega),h3.set.only hO (by simp;omega),h3.ge,hne⟩,((Only.of_below HB3.out [B.lb]).trans hO (fun _ h=>Or.inl h))⟩
   clear hO h3
   go_wp2
   refine bodyPost_end (v:= .tuple #[]) (by simp[results,Tryz.results150,go_sem]) rfl ?_
   refine Or.inl ⟨⟨HWO.out.1,?_⟩,rfl,?_,HR.out.2⟩
   ·rw[←HWO.out.2.1,←HWO.out.2.2.1,←HWO.out.2.2.2]
   ·rw[←HWO.out.2.1];exact HR.out.1
end
section
variable {P:Program} {n:Nat}
def wpF (P:Program) (f0:FuncId) (c:Code) (Q:Exit→Act→World→Prop) (a:Act) (w:World):Prop:=
 ∀(b:Frame) (k:List Item) (cs:List Frame),b.roundOf=none→b.fn=f0→
  ∃e a' w',Q e a' w'∧ArrivesIn (Machine.fenced P Fence.wide) P (lone (b.atR a (.code c::k)) cs w) b k cs e a' w'
theorem wpF_of {f0:FuncId} {c:Code} {Q:Exit→Act→World→Prop} {a:Act} {w:World} (h:c.wpIn Fence.wide n P Q a w):wpF P f0 c Q a w:=
 fun b k cs hro _=>h b k cs hro trivial (room_wide _)
theorem wpF_mono {f0:FuncId} {c:Code} {Q Q':Exit→Act→World→Prop} {a:Act} {w:World} (h:wpF P f0 c Q a w) (hq: ∀e a w,Q e a w→Q' e a w):wpF P f0 c Q' a w:=fun b k cs h1 h2=>by
 obtain⟨e,a',w',q,r⟩:=h b k cs h1 h2
 exact⟨e,a',w',hq _ _ _ q,r⟩
theorem calm_wide {fr:Frame} {cs:List Frame} {w:World} (ha:fr.about P w=none):(lone fr cs w).fenced P Fence.wide:=fenced_calm (n:=0) trivial (room_wide _) ha
theorem wpF_seq {f0:FuncId} {x y:Code} {Q:Exit→Act→World→Prop} {a:Act} {w:World} (h:wpF P f0 x (Exit.then (fun a w=>wpF P f0 y Q a w) Q) a w):wpF P f0 (Code.seq x y) Q a w:=by
 intro b k cs h1 h2
 have s0:StepsIn (Machine.fenced P Fence.wide) P (lone (b.atR a (.code (.seq x y)::k)) cs w) _:= .one (calm_wide rfl) stepR_seq
 obtain⟨e,a1,w1,q,r⟩:=h b (.code y::k) cs h1 h2
 by_cases he:e= .normal
 ·subst he
  obtain⟨e2,a2,w2,q2,r2⟩:=q b k cs h1 h2
  exact⟨e2,a2,w2,q2,.of_steps (StepsIn.trans s0 r) r2⟩
 ·have q':Q e a1 w1:=by cases e<;>first | exact absurd rfl he | exact q
  exact⟨e,a1,w1,q',.of_steps s0 (.pass (x:= .code y) rfl (fun _ _=> .inl he) r)⟩
def roundQ (P:Program) (l:Nat) (R:Ending→World→Prop):Exit→Act→World→Prop
 | .normal,_,w=> ∃v w',(Instr.endRound l none).run P w= .ok v w'∧R (.returned v) w'
 | .panic chain,a,w=>a.defers=[]∧R (.panicked chain) w
 | _,_,_=>False
theorem round_pan {l:Nat} {f:FuncId} {tmps:Array Value} {assign body:Code} {w:World} {R:Ending→World→Prop} (hf: ∃fn,P.funcs[f]?=some fn)
  (h:assign.wpIn (Fence.wide.inRound l) n P (Exit.then (fun a1 w1=> ∃w2,(Instr.beginRound l).run P w1= .ok () w2∧body.wpIn (Fence.wide.inRound l) n P (roundQ P l R) a1 w2) (fun _ _ _=>False)) { tmps:=tmps,defers:=[] } w):
  RoundIn Fence.wide n P l f tmps assign body w R:=by
 refine⟨trivial,fun c cs hr=> ?_⟩
 obtain⟨b,hb⟩: ∃b:Frame,b={ (default:Frame) with fn:=f,kind:= .normal,roundOf:=some l }:=⟨_,rfl⟩
 have hbr:b.roundOf=some l:=by rw[hb]
 have hfn:b.fn=f:=by rw[hb]
 have hstart:Frame.round l f tmps assign body .normal=b.atR { tmps:=tmps,defers:=[] } [.code assign,.beginRound,.code body]:=by
  rw[hb];simp[Frame.round,Frame.atR]
 have calm: ∀{fr:Frame} {w:World},fr.about P w=none→(lone fr (c::cs) w).fenced P (Fence.wide.inRound l):=fun ha=>fenced_calm (n:=n) trivial hr ha
 obtain⟨e,a1,w1,q,r⟩:=h b [.beginRound,.code body] (c::cs) hbr trivial hr
 rw[hstart]
 cases e with
 | normal=>
  obtain⟨w2,hbeg,hbody⟩:=q
  obtain⟨e2,a2,w3,q2,r2⟩:=hbody b [] (c::cs) hbr trivial hr
  have r1:=StepsIn.trans r (.one (calm (fr:=b.atR a1 [.beginRound,.code body]) rfl) (stepR_beginRound hbr hbeg))
  cases e2 with
  | normal=>
   obtain⟨v,w4,hend,hR⟩:=q2
   exact⟨.returned v,w4,hR,(StepsIn.trans r1 (StepsIn.trans r2 (.one (calm (fr:=b.atR a2 []) rfl) (stepR_round_end hbr (by rw[hb]) hend))))⟩
  | panic chain=>
   obtain⟨hd,hR⟩:=q2
   obtain⟨todo,hs⟩:=r2
   have hlv:({ b.atR a2 todo with mode:= .panicking chain }:Frame).leaving P w3 (.panicked chain):=⟨rfl,by simpa[Frame.atR] using hd,by
    obtain⟨fn,h1⟩:=hf
    exact⟨fn,by simpa[Frame.atR,hfn] using h1⟩⟩
   exact⟨.panicked chain,w3,hR,StepsIn.trans r1 (StepsIn.trans hs (.one (fenced_leaving (n:=n) trivial hr hlv) (step_leave_panicked hlv)))⟩
  | ret=>exact q2.elim
  | exit id=>exact q2.elim
  | goto t=>exact q2.elim
  | outgrown=>exact q2.elim
 | ret=>exact q.elim
 | exit id=>exact q.elim
 | goto t=>exact q.elim
 | panic chain=>exact q.elim
 | outgrown=>exact q.elim
def recF (f0:FuncId) (tmps:Array Value) (ps:Array Tmp) (assign body:Code) (D:Nat) (st:LoopState):Loop:={ state:=st,pending:=none,fn:=f0,tmps:=tmps,params:=ps,assign:=assign,body:=body,defers:=D }
structure LoopAt (l D:Nat) (r:Loop) (W:World):Prop where
 lp:W.heap[l]?=some (.loop r)
 df:W.heap[D]?=some (.deferred (some []))
theorem yield_pan {l D:Nat} {f0:FuncId} {tmps:Array Value} {ps:Array Tmp} {assign body:Code} {args:Array Value} {W:World} {a1:Act} {J:World→Prop} {Pp:List PanicEntry→World→Prop} (hf: ∃fn,P.funcs[f0]?=some fn) (hlD:l≠D) (hl:LoopAt l D (recF f0 tmps ps assign body D .ready) W) (hsz:args.size=ps.size)
  (hassign: ∀K:Act→World→Prop,K a1 W→assign.wpIn (Fence.wide.inRound l) n P (Exit.then K (fun _ _ _=>False)) { tmps:=(ps.zip args).foldl (fun t (p,v)=>t.setIfInBounds p v) tmps,defers:=[] } W)
  (hbody: ∀W',W'=W.putObj l (.loop (recF f0 tmps ps assign body D .busy))→LoopAt l D (recF f0 tmps ps assign body D .busy) W'→body.wpIn (Fence.wide.inRound l) n P (fun e a W3=>match e with | .normal=>LoopAt l D (recF f0 tmps ps assign body D .busy) W3∧J (W3.putObj l (.loop (recF f0 tmps ps assign body D .ready))) | .panic chain=>a.defers=[]∧Pp chain W3 | _=>False) a1 W'):
  YieldAt Fence.wide n P l args W fun e W'=>(e= .returned (.bool true)∧LoopAt l D (recF f0 tmps ps assign body D .ready) W'∧J W')∨ ∃chain,e= .panicked chain∧Pp chain W':=by
 have hy:=run_yield (P:=P) (args:=args) hl.lp hsz
 refine⟨_,_,_,_,hy,round_pan hf (hassign _ ⟨_,run_beginRound hl.lp rfl,?_⟩)⟩
 have hlt:=(Array.getElem?_eq_some_iff.1 hl.lp).1
 have hb:=hbody _ rfl ⟨World.putObj_heap_same hlt,(World.putObj_heap_other hlD.symm).trans hl.df⟩
 refine wpIn_mono hb ?_
 intro e a W3 h
 cases e with
 | normal=>
  obtain⟨h1,h2⟩:=h
  refine⟨_,_,run_endRound (P:=P) none h1.lp,Or.inl ⟨rfl,⟨World.putObj_heap_same (Array.getElem?_eq_some_iff.1 h1.lp).1,(World.putObj_heap_other hlD.symm).trans h1.df⟩,h2⟩⟩
 | panic chain=>exact⟨h.1,Or.inr ⟨chain,rfl,h.2⟩⟩
 | ret=>exact h.elim
 | exit id=>exact h.elim
 | goto t=>exact h.elim
 | outgrown=>exact h.elim
theorem wpF_range {f0:FuncId} {g:Operand} {ps:Array Tmp} {assign body:Code} {Q:Exit→Act→World→Prop} {a:Act} {w:World} {gf:Nat} {lb:Array Value} (hg:a.eval g= .func (.func gf) #[] lb) (eg: ∀args w,(callFunc gf args).run P w= .ok (.enter gf args) w)
  (hcall: ∀W1,W1=(w.alloc (.deferred (some []))).alloc (.loop (recF f0 a.tmps ps assign body w.heap.size .ready))→LoopAt (w.heap.size+1) w.heap.size (recF f0 a.tmps ps assign body w.heap.size .ready) W1→
   CallsIn Fence.wide n P gf (#[.func (.yield (w.heap.size+1)) #[] #[]]++lb) W1 fun e W2=>
    (∃v,e= .returned v∧LoopAt (w.heap.size+1) w.heap.size (recF f0 a.tmps ps assign body w.heap.size .ready) W2∧Q .normal { a with defers:={ target:= .collected w.heap.size,args:= #[] }::a.defers } (W2.putObj (w.heap.size+1) (.loop (recF f0 a.tmps ps assign body w.heap.size .exhausted))))∨
    ∃chain,e= .panicked chain∧Q (.panic chain) { a with defers:={ target:= .collected w.heap.size,args:= #[] }::a.defers } W2):
  wpF P f0 (Code.rangeFunc g ps assign body) Q a w:=by
 intro b k cs hro hbf
 have hw1:LoopAt (w.heap.size+1) w.heap.size (recF f0 a.tmps ps assign body w.heap.size .ready) ((w.alloc (.deferred (some []))).alloc (.loop (recF f0 a.tmps ps assign body w.heap.size .ready))):=by
  refine⟨?_,?_⟩
  ·have:=World.alloc_heap_new (w.alloc (.deferred (some []))) (.loop (recF f0 a.tmps ps assign body w.heap.size .ready))
   rwa[World.size_alloc] at this
  ·exact(Below.heap_alloc _ _ _ (by simp)).trans (World.alloc_heap_new w _)
 have he:(Instr.enterLoop b.fn a.tmps ps assign body b.roundOf).run P w= .ok (w.heap.size+1,[{ target:= .collected w.heap.size,args:= #[] }]) ((w.alloc (.deferred (some []))).alloc (.loop (recF f0 a.tmps ps assign body w.heap.size .ready))):=by
  rw[hro,hbf]
  exact run_enterLoop_outer _ _ _ _ _
 have hres:(resolve a.eval (rangeCall g (w.heap.size+1)) 0).run P ((w.alloc (.deferred (some []))).alloc (.loop (recF f0 a.tmps ps assign body w.heap.size .ready)))= .ok { target:= .fn (.func gf) lb,args:= #[.func (.yield (w.heap.size+1)) #[] #[]] } ((w.alloc (.deferred (some []))).alloc (.loop (recF f0 a.tmps ps assign body w.heap.size .ready))):=by
  simp only[resolve,hg]
  simp[go_sem]
 have hinv:(invoke (.fn (.func gf) lb) #[.func (.yield (w.heap.size+1)) #[] #[]]).run P ((w.alloc (.deferred (some []))).alloc (.loop (recF f0 a.tmps ps assign body w.heap.size .ready)))= .ok (.enter gf (#[.func (.yield (w.heap.size+1)) #[] #[]]++lb)) ((w.alloc (.deferred (some []))).alloc (.loop (recF f0 a.tmps ps assign body w.heap.size .ready))):=by
  simp[invoke,go_sem,eg]
 have hst:=stepR_rangeFunc (P:=P) (b:=b) (a:=a) (k:=k) (cs:=cs) (w:=w) he hres hinv
 have h0:(lone (b.atR a (.code (.rangeFunc g ps assign body)::k)) cs w).fenced P Fence.wide:=fenced_lone (.inl trivial) (fun _ _=>trivial) (room_wide _)
 obtain⟨_,hin⟩:=hcall _ rfl hw1
 obtain⟨e,w3,fr,hR,hs,hfr,hlv⟩:=hin (b.atR { a with defers:=[{ target:= .collected w.heap.size,args:= #[] }]++a.defers } (.inRangeFunc (w.heap.size+1)::k)::cs) (room_wide _)
 rcases hR with⟨v,rfl,hl3,hq⟩ | ⟨chain,rfl,hq⟩
 ·have hend:=run_endLoop (P:=P) hl3.lp (by simp[recF])
  have s1:StepsIn (Machine.fenced P Fence.wide) P (lone (b.atR a (.code (.rangeFunc g ps assign body)::k)) cs w) (lone (b.atR { a with defers:=[{ target:= .collected w.heap.size,args:= #[] }]++a.defers } k) cs (w3.putObj (w.heap.size+1) (.loop (recF f0 a.tmps ps assign body w.heap.size .exhausted)))):=by
   refine .head h0 hst (StepsIn.trans hs (.head (fenced_leaving (n:=0) trivial (room_wide _) hlv) ?_ (.one (calm_wide (fr:=b.atR { a with defers:=[{ target:= .collected w.heap.size,args:= #[] }]++a.defers } (.endRangeFunc (w.heap.size+1)::k)) rfl) (stepR_endRangeFunc hend))))
   rw[←finish_atR_inRangeFunc (w.heap.size+1) v]
   exact step_leave_returned hlv
  exact⟨.normal,_,_,hq,s1⟩
 ·refine⟨.panic chain,_,w3,hq,.inRangeFunc (w.heap.size+1)::k,.head h0 hst (StepsIn.trans hs (.one (fenced_leaving (n:=0) trivial (room_wide _) hlv) ?_))⟩
  rw[←Frame.raise_atR]
  exact step_leave_panicked hlv
theorem callsIn_of_wpF {f:FuncId} {fn:Func} {c:Code} {args:Array Value} {w:World} {R:Ending→World→Prop} (hf:P.funcs[f]?=some fn) (hb:fn.body=some c)
  (h:wpF P f c (bodyPostM Fence.wide n P fn R) { tmps:=args++Array.replicate (fn.ntmps-args.size) undef,defers:=[] } w):CallsIn Fence.wide n P f args w R:=by
 refine⟨trivial,fun cs hr=> ?_⟩
 obtain⟨b,hbd⟩: ∃b:Frame,b={ (default:Frame) with fn:=f,kind:= .normal,roundOf:=none }:=⟨_,rfl⟩
 have hbf:b.fn=f:=by rw[hbd]
 have hbr:b.roundOf=none:=by rw[hbd]
 have hbk:b.kind= .normal:=by rw[hbd]
 have hen:Frame.enter P f args .normal=b.atR { tmps:=args++Array.replicate (fn.ntmps-args.size) undef,defers:=[] } [.code c]:=by
  rw[hbd];simp[Frame.enter,Frame.atR,hf,hb]
 obtain⟨e,a',w',hq,r⟩:=h b [] cs hbr hbf
 rw[←hen] at r
 have fin: ∀(u:FrameMode) (todo:List Item),LeavesInM Fence.wide n P fn a'.tmps R a'.defers u w'→ ∃e w'' fr',R e w''∧ComesIn (Machine.fenced P Fence.wide) P (lone { b.atR a' todo with mode:=u } cs w') (lone fr' cs w'') e∧fr'.fn=f∧fr'.leaving P w'' e:=fun u todo hl=>by
  obtain⟨e',w'',fr',hR,hs,hfn,hlv⟩:=leaves_stepsInM a'.defers u w' { b.atR a' todo with mode:=u } cs rfl rfl rfl (by simpa[Frame.atR,hbf] using hf) (by simpa[Frame.atR] using hbk) trivial hr hl
  exact⟨e',w'',fr',hR,hs,by rw[hfn];simp[Frame.atR,hbf],hlv⟩
 cases e with
 | normal=>
  obtain⟨e',w'',fr',hR,hs,h1,h2⟩:=fin .returning [] hq
  exact⟨e',w'',fr',hR,ComesIn.of_steps (StepsIn.trans r (.one (calm_wide (fr:=b.atR a' []) rfl) (stepR_end hbr))) hs,h1,h2⟩
 | ret=>
  obtain⟨todo,hs0⟩:=r.1 hbr
  obtain⟨e',w'',fr',hR,hs,h1,h2⟩:=fin .returning todo hq
  exact⟨e',w'',fr',hR,ComesIn.of_steps hs0 hs,h1,h2⟩
 | panic chain=>
  obtain⟨todo,hs0⟩:=r
  obtain⟨e',w'',fr',hR,hs,h1,h2⟩:=fin (.panicking chain) todo hq
  exact⟨e',w'',fr',hR,ComesIn.of_steps hs0 hs,h1,h2⟩
 | exit id=>exact hq.elim
 | goto l=>exact hq.elim
 | outgrown=>exact⟨.outgrown,w',b,hq,r.resolve_left (by rw[hbk];simp),hbf,trivial⟩
end
section
attribute [local go_sem ↓ high] nodeLoadAt nodeLoadVar nodeStoreAt arrLoadAt
attribute [local go_sem] ldM_run lvM_run stM_run
theorem lenIn: ∀(xs ys:List Int),xs.Nodup→(∀x∈xs,x∈ys)→xs.length≤ys.length
 | [],_,_,_=>Nat.zero_le _
 | x::xs,ys,hn,hs=>by
  rw[List.nodup_cons] at hn
  have hx:=hs x (List.mem_cons_self ..)
  have h:=lenIn xs (ys.erase x) hn.2 (fun y hy=>by
   exact(List.mem_erase_of_ne (fun e=>hn.1 (by rw[←e];exact hy))).2 (hs y (List.mem_cons_of_mem _ hy)))
  rw[List.length_erase_of_mem hx] at h
  have:=List.length_pos_of_mem hx
  simp
  omega
def lenMap (W:World) (mb:Nat):Nat:=match W.heap[mb]? with
 | some (.map es _)=>es.size
 | _=>0
theorem SetIs.len {W:World} {mb:Nat} {R:List Int} (h:SetIs W mb R):lenMap W mb=R.length:=by
 obtain⟨es,cl,h1,h2,_⟩:=h
 unfold lenMap
 rw[h1]
 have:=congrArg List.length h2
 simpa using this
theorem node_in {bs:List Int} {a:Int} {n:NodeA} (h:nodeI bs a=some n):clsI bs a=3∧n=nodeOf (nodeF bs a):=by
 unfold nodeI at h
 split at h
 ·rename_i hh
  injection h with h
  exact⟨hh.1,h.symm⟩
 ·cases h
theorem chain_few {bs:List Int} {lev a0:Int} {pre:List (Int×NodeA)} {prev:Option Int} {a:Int} (h:ChainTo (nodeI bs) lev a0 pre prev a) (hs:0<slabsZ bs.length) (hp: ∀x∈pre,0≤x.1):pre.length≤bs.length:=by
 have hl:=lenIn (pre.map (·.1)) ((List.range bs.length).map (fun k:Nat=>(k:Int))) h.nodup (fun x hx=>by
  obtain⟨y,hy,rfl⟩:=List.mem_map.1 hx
  obtain⟨_,hn,_⟩:=h.at' y hy
  obtain⟨k,hk,hk24,_⟩:=cls3_in (node_in hn).1 (hp y hy) hs
  rw[List.mem_map]
  exact⟨8*k,List.mem_range.2 (by omega),by omega⟩)
 simpa using hl
def KeepL (N1 l B6:Nat) (A A':World):Prop:=A.heap.size≤A'.heap.size∧ ∀k o,A.heap[k]?=some o→k≠B6→k≠l→(k<N1∨ ∀cs fr,o≠ .cells cs 196 fr)→A'.heap[k]?=some o
theorem KeepL.cell {N1 l B6:Nat} {A A':World} (h:KeepL N1 l B6 A A') {p:Addr} (hp:p.block<A.heap.size) (h1:p.block≠B6) (h2:p.block≠l) (h3:p.block<N1):A'.cell? p=A.cell? p:=by
 obtain⟨o,ho⟩: ∃o,A.heap[p.block]?=some o:=⟨_,Array.getElem?_eq_getElem hp⟩
 exact World.cell?_of_block (w:=A) ((h.2 _ _ ho h1 h2 (Or.inl h3)).trans ho.symm)
theorem KeepL.blk {N1 l B6:Nat} {A A':World} (h:KeepL N1 l B6 A A') {b:Nat} {t:TypeId} {cs:Array Value} (hb:Blk A b t cs) (h1:b≠B6) (h2:b≠l) (h3:b<N1∨t≠196):Blk A' b t cs:=
 h.2 b _ hb h1 h2 (h3.imp id fun hne cs' fr e=>hne (by injection e))
theorem KeepL.trans {N1 l B6:Nat} {A A' A'':World} (h:KeepL N1 l B6 A A') (k:KeepL N1 l B6 A' A''):KeepL N1 l B6 A A'':=
 ⟨Nat.le_trans h.1 k.1,fun x o hx h1 h2 h3=>k.2 x o (h.2 x o hx h1 h2 h3) h1 h2 h3⟩
theorem KeepL.of_below {N1 l B6:Nat} {A A':World} (h:Below A.heap.size A A'):KeepL N1 l B6 A A':=⟨h.size,fun k o hk _ _ _=>(h.block k (Array.getElem?_eq_some_iff.1 hk).1).trans hk⟩
theorem KeepL.putL (N1 l B6:Nat) (A:World) (o':Obj):KeepL N1 l B6 A (A.putObj l o'):=⟨by simp[World.putObj],fun k o hk _ h2 _=>(World.putObj_heap_other h2).trans hk⟩
theorem LookIs.keepL {w w':World} {N N1 l B6:Nat} {B:LkP} {bs:List Int} {root:Int} {lv pr:Value} {R:List Int} (h:LookIs w N B bs root lv pr R) (hk:KeepL N1 l B6 w w') (h1:B.lb≠B6∧B.lb≠l∧B.lb<N1) (h2:B.wb≠B6∧B.wb≠l∧B.wb<N1) (h3:B.hb≠B6∧B.hb≠l∧B.hb<N1) (h4:B.mb≠B6∧B.mb≠l∧B.mb<N1):LookIs w' N B bs root lv pr R:=by
 obtain⟨es,cl,q1,q2⟩:=h.set
 exact⟨hk.blk h.cells h1.1 h1.2.1 (Or.inl h1.2.2),⟨⟨Nat.lt_of_lt_of_le h.fix.words.1 hk.1,fun i x hi=>(hk.cell (p:=⟨B.wb,0+i,none⟩) h.fix.words.1 h2.1 h2.2.1 h2.2.2).trans (h.fix.words.2 i x hi)⟩,h.fix.wc,Nat.lt_of_lt_of_le h.fix.hlt hk.1,
  fun i hi=>⟨(hk.cell (p:=⟨B.hb,i*2,none⟩) h.fix.hlt h3.1 h3.2.1 h3.2.2).trans (h.fix.heads i hi).1,(hk.cell (p:=⟨B.hb,i*2+1,none⟩) h.fix.hlt h3.1 h3.2.1 h3.2.2).trans (h.fix.heads i hi).2⟩,h.fix.ok,h.fix.some',h.fix.byte⟩,
  ⟨es,cl,hk.2 _ _ q1 h4.1 h4.2.1 (Or.inl h4.2.2),q2⟩,h.ge,h.ne⟩
def RoundOK (n l N1 B6:Nat) (bs:List Int) (lev a0:Int) (J:List (Int×NodeA)→World→Prop) (Pp:World→Prop):Prop:=
 ∀pre prev (x:Int×NodeA) W1,ChainTo (nodeI bs) lev a0 pre prev x.1→x.1≠0→0≤x.1→nodeI bs x.1=some x.2→J pre W1→
  YieldAt Fence.wide n Tryz.prog l #[.int .u64 x.1,.agg (nodeC x.2)] W1 fun e W'=>
   (e= .returned (.bool true)∧x.2.lv=lev∧(lev=0→x.2.fi=x.1)∧lowOK prev x.2.low∧J (pre++[x]) W'∧KeepL N1 l B6 W1 W')∨
   (e= .panicked errC∧(∀r,¬ChainAt (nodeI bs) lev none a0 r)∧Pp W')
theorem Chain1_in (n l N N1 B6:Nat) (B:LkP) (bs:List Int) (root:Int) (lv pr:Value) (R0:List Int) (lev a0:Int) (Ba Bl:Nat) (J:List (Int×NodeA)→World→Prop) (Pp:World→Prop) (W:World) (ha0:0≤a0∧a0≤18446744073709551615)
  (hl:B.lb≠B6∧B.lb≠l∧B.lb<N1∧B.wb≠B6∧B.wb≠l∧B.wb<N1∧B.hb≠B6∧B.hb≠l∧B.hb<N1∧B.mb≠B6∧B.mb≠l∧B.mb<N1)
  (hbx:Ba≠B6∧Ba≠l∧Ba<N1∧Bl≠B6∧Bl≠l∧Bl<N1∧Ba≠Bl∧Ba≠B.lb∧Ba≠B.wb∧Ba≠B.hb∧Ba≠B.mb∧Bl≠B.mb)
  (hN1:N1≤W.heap.size) (hls:l<W.heap.size∧B6<W.heap.size)
  (hR0: ∀a∈R0,∀nd,nodeI bs a=some nd→nd.lv≠lev)
  (hJ: ∀pre A A',J pre A→Only [B.mb,Ba] A A'→J pre A')
  (hP: ∀pre A A',J pre A→Only [B.mb,Ba] A A'→Pp A')
  (hY:RoundOK (n-1) l N1 B6 bs lev a0 J Pp)
  (h0:J [] W) (hL:LookIs W N B bs root lv pr R0) (hBa:Blk W Ba 51 #[.int .u64 a0]) (hBl:W.cell? ⟨Bl,0,none⟩=some (.pointer (some ⟨B.lb,0,none⟩))):
  CallsIn Fence.wide n Tryz.prog 241 #[.func (.yield l) #[] #[],.pointer (some ⟨Ba,0,none⟩),.pointer (some ⟨Bl,0,none⟩)] W fun e W'=>
   ((∃v,e= .returned v)∧ ∃row,ChainAt (nodeI bs) lev none a0 row∧J row W'∧LookIs W' N B bs root lv pr (R0++row.map (·.1)))∨
   (e= .panicked errC∧(∀r,¬ChainAt (nodeI bs) lev none a0 r)∧Pp W'):=by
 have hBlt:=hBa.lt
 have hBlt2:=World.block_lt_of_cell? W _ hBl
 refine callsIn_of_wp Tryz.func241 rfl trivial ?_ rfl
 simp only[Tryz.ntmps241,List.size_toArray,List.length_cons,List.length_nil,Nat.reduceAdd,Nat.reduceSub,Array.replicate_succ,Array.replicate_zero,List.push_toArray,List.append_toArray,List.nil_append,List.cons_append]
 have HL0:=hid (⟨hl,hbx,hN1,hls,hBlt,hBlt2⟩:_∧_∧_∧_∧_∧_)
 have HR0:=hid hR0
 have HJ:=hid hJ
 have HP:=hid hP
 have HY:=hid hY
 have hsl:=hL.fix.some'
 have HSL:=hid hsl
 have HBY:=hid hL.fix.byte
 have HL:=hid hL
 clear hl hbx hN1 hls hR0 hJ hP hY hsl hL hBlt hBlt2
 gi_wp2_with fail
 gi_loopw [4] (fun s4 wr=> ∃(pre:List (Int×NodeA)) (prev:Option Int) (a:Int),Hid (ChainTo (nodeI bs) lev a0 pre prev a∧(∀x∈pre,0≤x.1)∧0≤a∧a≤18446744073709551615)∧Hid (J pre wr)∧Hid (LookIs wr N B bs root lv pr (R0++pre.map (·.1)))∧Hid (Blk wr Ba 51 #[.int .u64 a])∧wr.cell? ⟨Bl,0,none⟩=some (.pointer (some ⟨B.lb,0,none⟩))∧Hid (W.heap.size≤wr.heap.size)) (fun _ wr=>(R0.length+bs.length+1)-lenMap wr B.mb)
 case atStart=>exact⟨[],none,a0,⟨ChainTo.start _ _ _,(fun x hx=>by cases hx),ha0⟩,h0,hid (by simpa using HL.out),hBa,hBl,Nat.le_refl _⟩
 case round=>
  obtain⟨pre,prev,a,hC,hJp,hLk,HBA,cl,hsz⟩:=hrel
  have ca:wr.cell? ⟨Ba,0,none⟩=some (.int .u64 a):=HBA.out.cell 0
  by_cases hz:a=0
  ·have e0:(a !=0)=false:=by simp[hz]
   subst hz
   have HF:Hid (ChainAt (nodeI bs) lev none a0 pre):=hC.out.1.done
   gi_wp2
   go_end0
   exact Or.inl ⟨⟨_,rfl⟩,pre,HF.out,hJp.out,hLk.out⟩
  ·have e0:(a !=0)=true:=by simp[hz]
   have HNZ:=hid hz
   clear hz
   by_cases hm:a∈R0++pre.map (·.1)
   ·have TK:=hid (LTake_no N B bs root lv pr _ a hm wr hLk.out)
    have HNO:Hid (∀r,¬ChainAt (nodeI bs) lev none a0 r):=by
     rcases List.mem_append.1 hm with h1 | h1
     ·refine hC.out.1.no HNZ.out fun nd hnd hl _ _=>HR0.out a h1 nd hnd hl
     ·exact hC.out.1.dup h1
    clear hm
    gi_wp2_with fail
    refine⟨trivial,(fun h=>by simp[Fence.wide] at h),(callsIn_wide.2 TK.out).mono ?_⟩
    rintro e w1 ⟨rfl,hb1⟩
    refine⟨rfl,Or.inr ⟨rfl,HNO.out,HP.out pre _ _ hJp.out (Only.of_below hb1 _)⟩⟩
   ·have TK:=hid (LTake_yes N B bs root lv pr _ a hm wr hLk.out)
    have HM:=hid hm
    clear hm
    gi_wp2_with fail
    refine⟨trivial,(fun h=>by simp[Fence.wide] at h),(callsIn_wide.2 TK.out).mono ?_⟩
    rintro e w1 ⟨rfl,hL1,ho1⟩
    have d1:w1.cell? ⟨Ba,0,none⟩=some (.int .u64 a):=(ho1.cell (p:=⟨Ba,0,none⟩) (by have:=HL0.out;have:=hsz.out;dsimp only;omega) (by have:=HL0.out;simp;omega)).trans ca
    have d2:w1.cell? ⟨Bl,0,none⟩=some (.pointer (some ⟨B.lb,0,none⟩)):=(ho1.cell (p:=⟨Bl,0,none⟩) (by have:=HL0.out;have:=hsz.out;dsimp only;omega) (by have:=HL0.out;simp;omega)).trans cl
    have HO1:=hid ho1
    cases hnd:nodeI bs a with
    | none=>
     have ND:=hid (LNode_no N B bs root lv pr _ a hC.out.2.2 hnd w1 hL1)
     have HNO:Hid (∀r,¬ChainAt (nodeI bs) lev none a0 r):=hC.out.1.no HNZ.out fun nd hnd2 _ _ _=>by rw[hnd] at hnd2;cases hnd2
     clear hnd ho1 hL1 ca cl
     gi_wp2_with fail
     refine⟨trivial,(fun h=>by simp[Fence.wide] at h),(callsIn_wide.2 ND.out).mono ?_⟩
     rintro e w2 ⟨rfl,hb2⟩
     refine⟨rfl,Or.inr ⟨rfl,HNO.out,HP.out pre _ _ hJp.out ((HO1.out.mono (by simp)).trans (Only.of_below hb2 []) (fun _ h=>by cases h))⟩⟩
    | some nn=>
     have ND:=hid (LNode_yes N B bs root lv pr _ a hC.out.2.2 nn hnd w1 hL1)
     have HND:=hid hnd
     have HL1:=hid hL1
     clear hnd ho1 hL1 ca cl
     gi_wp2_with fail
     refine⟨trivial,(fun h=>by simp[Fence.wide] at h),(callsIn_wide.2 ND.out).mono ?_⟩
     rintro e w2 ⟨rfl,hb2⟩
     have HB2:=hid hb2
     obtain⟨W3,hs3,k3,hb3⟩:=node_new w2 nn
     have HB3:=hid (bx hb2 hb3)
     have ld3:=node_ld k3
     have e1:W3.cell? ⟨Ba,0,none⟩=some (.int .u64 a):=(HB3.out.cell (p:=⟨Ba,0,none⟩) (World.block_lt_of_cell? w1 _ d1)).trans d1
     have e2:W3.cell? ⟨Bl,0,none⟩=some (.pointer (some ⟨B.lb,0,none⟩)):=(HB3.out.cell (p:=⟨Bl,0,none⟩) (World.block_lt_of_cell? w1 _ d2)).trans d2
     have hO3:Only [B.mb,Ba] wr W3:=((HO1.out.mono (by simp)).trans (Only.of_below HB3.out []) (fun _ h=>by cases h))
     obtain⟨fn,tmps,assign,body,hy,hR⟩:=HY.out pre prev (a,nn) W3 hC.out.1 HNZ.out hC.out.2.2.1 HND.out (HJ.out pre _ _ hJp.out hO3)
     have HR:=hid hR
     have HK3:=hid k3
     have HO3:=hid hO3
     clear hR hb2 hb3 hO3 k3 d1 d2
     have hkBA:Blk W3 Ba 51 #[.int .u64 a]:=(HO1.out.blk HBA.out (by have:=HL0.out;simp;omega)).bel HB3.out
     have HKBA:=hid hkBA
     have HL3:=hid (HL1.out.bel HB3.out)
     have h2s:W.heap.size≤w2.heap.size:=by have:=hsz.out;have:=HO1.out.size;have:=HB2.out.size;omega
     have H2S:=hid h2s
     clear hkBA h2s
     gi_wp2_with fail
     refine⟨fun h=>by simp[Fence.wide] at h,HR.out.mono ?_⟩
     rintro e W4 (⟨rfl,q1,q2,q3,hJ4,hk4⟩ | ⟨rfl,hno,hpp⟩)
     ·have k4:Blk W4 w2.heap.size 55 (nodeC nn):=hk4.blk HK3.out (by have:=HL0.out;have:=H2S.out;omega) (by have:=HL0.out;have:=H2S.out;omega) (Or.inr (by decide))
      have g2:W4.cell? ⟨w2.heap.size,2,none⟩=some (.int .u64 nn.nx):=k4.cell 2
      have hBA4:Blk W4 Ba 51 #[.int .u64 a]:=hk4.blk HKBA.out (by have:=HL0.out;omega) (by have:=HL0.out;omega) (Or.inl (by have:=HL0.out;omega))
      have z1:W4.cell? ⟨Ba,0,none⟩=some (.int .u64 a):=hBA4.cell 0
      have z2:W4.frozen? ⟨Ba,0,none⟩=false:=hBA4.frozen 0
      have hO5:Only [B.mb,Ba] W4 (W4.setCell ⟨Ba,0,none⟩ (.int .u64 nn.nx)):=(Only.refl _ _).setCell (Or.inl (by simp)) _
      have hO6:Only [Ba] W4 (W4.setCell ⟨Ba,0,none⟩ (.int .u64 nn.nx)):=(Only.refl _ _).setCell (Or.inl (by simp)) _
      have hL4:=HL3.out.keepL hk4 (by have:=HL0.out;omega) (by have:=HL0.out;omega) (by have:=HL0.out;omega) (by have:=HL0.out;omega)
      have hL5:=hL4.only hO6 (by have:=HL0.out;simp;omega) (by have:=HL0.out;simp;omega) (by have:=HL0.out;simp;omega) (by have:=HL0.out;simp;omega)
      have hbl4:W4.cell? ⟨Bl,0,none⟩=some (.pointer (some ⟨B.lb,0,none⟩)):=(hk4.cell (p:=⟨Bl,0,none⟩) (World.block_lt_of_cell? W3 _ e2) (by have:=HL0.out;dsimp only;omega) (by have:=HL0.out;dsimp only;omega) (by have:=HL0.out;dsimp only;omega)).trans e2
      have hbl5:(W4.setCell ⟨Ba,0,none⟩ (.int .u64 nn.nx)).cell? ⟨Bl,0,none⟩=some (.pointer (some ⟨B.lb,0,none⟩)):=(hO6.cell (p:=⟨Bl,0,none⟩) (World.block_lt_of_cell? W4 _ hbl4) (by have:=HL0.out;simp;omega)).trans hbl4
      have hC2:=hC.out.1.next HNZ.out HND.out q1 q2 q3
      have hu:=nodeF_U64 HBY.out a 2
      have hnx:nn.nx=nodeF bs a 2:=by rw[(node_in HND.out).2];rfl
      have hpos: ∀x∈pre++[(a,nn)],0≤x.1:=by
       intro x hx
       rcases List.mem_append.1 hx with h | h
       ·exact hC.out.2.1 x h
       ·rw[List.mem_singleton.1 h];exact hC.out.2.2.1
      have HC2:=hid (⟨hC2,hpos,by rw[hnx];exact hu.1,by rw[hnx];exact hu.2⟩:ChainTo (nodeI bs) lev a0 (pre++[(a,nn)]) (some nn.low) nn.nx∧(∀x∈pre++[(a,nn)],0≤x.1)∧0≤nn.nx∧nn.nx≤18446744073709551615)
      have HJ5:=hid (HJ.out _ _ _ hJ4 hO5)
      have hRe:R0++pre.map (·.1)++[a]=R0++(pre++[(a,nn)]).map (·.1):=by simp
      rw[hRe] at hL5
      have HL5:=hid hL5
      have HK5:=hid (hBA4.set_ 0 (.int .u64 nn.nx))
      have HM5:=hid (show W.heap.size≤(W4.setCell ⟨Ba,0,none⟩ (.int .u64 nn.nx)).heap.size by have:=hk4.1;have:=HK3.out.lt;have:=H2S.out;have:=hO6.size;omega)
      have hfew:=chain_few HC2.out.1 HSL.out HC2.out.2.1
      have HME:=hid (show(R0.length+bs.length+1)-lenMap (W4.setCell ⟨Ba,0,none⟩ (.int .u64 nn.nx)) B.mb< (R0.length+bs.length+1)-lenMap wr B.mb by
       rw[HL5.out.set.len,hLk.out.set.len]
       simp at hfew ⊢
       omega)
      clear hfew hRe hu hnx hpos hC2 hL4 hL5 hO5 hO6 hBA4 k4 hbl4 hk4 hJ4 q1 q2 q3 ld3 hy hs3 e1 e2
      gi_wp2
      go_roundw
      case rel=>exact⟨pre++[(a,nn)],some nn.low,nn.nx,HC2,HJ5,HL5,HK5,hbl5,HM5⟩
      case measure=>exact HME.out
     ·exact⟨rfl,Or.inr ⟨rfl,hno,hpp⟩⟩
end
section
attribute [local go_sem ↓ high] nodeLoadAt nodeLoadVar nodeStoreAt append_shut2
attribute [local go_sem] ldM_run lvM_run stM_run Oper.semAt_some appM2_run
def linkL (n:NodeA) (a high:Int) (has:Bool):List Value:=(nodeC n).toList++[.int .u64 a,.int .u64 high,.bool has]
theorem LChain_z (lb:Nat) (a:Int) (w:World):Calls Tryz.prog 205 #[.pointer (some ⟨lb,0,none⟩),.int .u64 a] w fun e w'=>e= .returned (.func (.func 241) #[] #[.pointer (some ⟨w.heap.size+1,0,none⟩),.pointer (some ⟨w.heap.size,0,none⟩)])∧w'=(w.alloc (.cells #[.pointer (some ⟨lb,0,none⟩)] 136)).alloc (.cells #[.int .u64 a] 51):=by
 go_enter Tryz.func205,Tryz.ntmps205
 go_wp2
 go_ret
 exact⟨rfl,rfl⟩
def blkQ (Q:Exit→Act→World→Prop):Exit→Act→World→Prop
 | .normal,a,w=>Q .normal a w
 | .panic ch,a,w=>Q (.panic ch) a w
 | _,_,_=>False
theorem wpF_block {P:Program} {f0:FuncId} {id:Nat} {c:Code} {Q:Exit→Act→World→Prop} {a:Act} {w:World} (h:wpF P f0 c (blkQ Q) a w):wpF P f0 (Code.block id c) Q a w:=by
 intro b k cs h1 h2
 have s0:StepsIn (Machine.fenced P Fence.wide) P (lone (b.atR a (.code (.block id c)::k)) cs w) _:= .one (calm_wide rfl) stepR_block
 obtain⟨e,a1,w1,q,r⟩:=h b (.inBlock id::k) cs h1 h2
 cases e with
 | normal=>exact⟨.normal,a1,w1,q,StepsIn.trans s0 (StepsIn.trans r (.one (calm_wide (fr:=b.atR a1 (.inBlock id::k)) rfl) stepR_inBlock))⟩
 | panic ch=>exact⟨.panic ch,a1,w1,q,.of_steps s0 r⟩
 | ret=>exact q.elim
 | exit id=>exact q.elim
 | goto t=>exact q.elim
 | outgrown=>exact q.elim
theorem yield_pan2 {P:Program} {n:Nat} {l D:Nat} {f0:FuncId} {tmps:Array Value} {ps:Array Tmp} {assign body:Code} {args:Array Value} {W W2:World} {a1:Act} {J:World→Prop} {Pp:List PanicEntry→World→Prop} (hf: ∃fn,P.funcs[f0]?=some fn) (hlD:l≠D) (hl:LoopAt l D (recF f0 tmps ps assign body D .ready) W) (hl2:LoopAt l D (recF f0 tmps ps assign body D .ready) W2) (hsz:args.size=ps.size)
  (hassign: ∀K:Act→World→Prop,K a1 W2→assign.wpIn (Fence.wide.inRound l) n P (Exit.then K (fun _ _ _=>False)) { tmps:=(ps.zip args).foldl (fun t (p,v)=>t.setIfInBounds p v) tmps,defers:=[] } W)
  (hbody: ∀W',W'=W2.putObj l (.loop (recF f0 tmps ps assign body D .busy))→LoopAt l D (recF f0 tmps ps assign body D .busy) W'→body.wpIn (Fence.wide.inRound l) n P (fun e a W3=>match e with | .normal=>LoopAt l D (recF f0 tmps ps assign body D .busy) W3∧J (W3.putObj l (.loop (recF f0 tmps ps assign body D .ready))) | .panic chain=>a.defers=[]∧Pp chain W3 | _=>False) a1 W'):
  YieldAt Fence.wide n P l args W fun e W'=>(e= .returned (.bool true)∧LoopAt l D (recF f0 tmps ps assign body D .ready) W'∧J W')∨ ∃chain,e= .panicked chain∧Pp chain W':=by
 have hy:=run_yield (P:=P) (args:=args) hl.lp hsz
 refine⟨_,_,_,_,hy,round_pan hf (hassign _ ⟨_,run_beginRound hl2.lp rfl,?_⟩)⟩
 have hlt:=(Array.getElem?_eq_some_iff.1 hl2.lp).1
 have hb:=hbody _ rfl ⟨World.putObj_heap_same hlt,(World.putObj_heap_other hlD.symm).trans hl2.df⟩
 refine wpIn_mono hb ?_
 intro e a W3 h
 cases e with
 | normal=>
  obtain⟨h1,h2⟩:=h
  refine⟨_,_,run_endRound (P:=P) none h1.lp,Or.inl ⟨rfl,⟨World.putObj_heap_same (Array.getElem?_eq_some_iff.1 h1.lp).1,(World.putObj_heap_other hlD.symm).trans h1.df⟩,h2⟩⟩
 | panic chain=>exact⟨h.1,Or.inr ⟨chain,rfl,h.2⟩⟩
 | ret=>exact h.elim
 | exit id=>exact h.elim
 | goto t=>exact h.elim
 | outgrown=>exact h.elim
def linkR (row:List (Int×NodeA)) (i:Nat):List Value:=linkL ((row[i]?).map (·.2) |>.getD zeroN) ((row[i]?).map (·.1) |>.getD 0) (highI row i) (hasI row i)
def linksC (row:List (Int×NodeA)):List Value:=(List.range row.length).flatMap (linkR row)
structure LvJ (w0:World) (N mb N1 B5 B6 l D:Nat) (r:Loop) (lev:Int) (pre:List (Int×NodeA)) (W:World):Prop where
 loop:LoopAt l D r W
 b5:Blk W B5 3 #[.int .i64 lev]
 row: ∃rv,Blk W B6 148 #[rv]∧W.ownsRow N1 196 24 rv pre.length (linksC pre)
 only':Only [mb] w0 W
 base:N≤w0.heap.size∧N≤mb
theorem LvJ.bel {w0:World} {N mb N1 B5 B6 l D:Nat} {r:Loop} {lev:Int} {pre:List (Int×NodeA)} {W:World} (h:LvJ w0 N mb N1 B5 B6 l D r lev pre W):Below N w0 W:=h.only'.below (fun x hx=>by rw[List.mem_singleton.1 hx];exact h.base.2) h.base.1
theorem LvJ.only {w0:World} {N mb N1 B5 B6 l D:Nat} {r:Loop} {lev:Int} {pre:List (Int×NodeA)} {W W':World} {f:List Nat} (h:LvJ w0 N mb N1 B5 B6 l D r lev pre W) (ho:Only f W W') (hf: ∀k∈f,(k=mb∨w0.heap.size≤k)∧k<N1∧k≠B5∧k≠B6) (hl:N1≤l∧N1≤D):LvJ w0 N mb N1 B5 B6 l D r lev pre W':=by
 obtain⟨rv,h1,h2⟩:=h.row
 have hn: ∀k,N1≤k→k∉f:=fun k hk hm=>by have:=hf k hm;omega
 refine⟨⟨(ho.block l (Array.getElem?_eq_some_iff.1 h.loop.lp).1 (hn l hl.1)).trans h.loop.lp,(ho.block D (Array.getElem?_eq_some_iff.1 h.loop.df).1 (hn D hl.2)).trans h.loop.df⟩,ho.blk h.b5 (fun hm=>(hf _ hm).2.2.1 rfl),⟨rv,ho.blk h1 (fun hm=>(hf _ hm).2.2.2 rfl),ho.own h2 (fun k hk=>hn k ?_)⟩,h.only'.trans ho (fun x hx=>(hf x hx).1.imp (fun e=>by simp[e]) id),h.base⟩
 rcases h2.2 with⟨e1,_⟩ | ⟨g,cap,cur,e1,e2,_⟩
 ·rw[e1] at hk;cases hk
 ·rw[e1] at hk
  have:g=k:=by simpa[Value.ownBlock] using hk
  omega
def nodeFits (bs:List Int) (lev:Int) (prev:Option Int) (x:Int×NodeA):Prop:=x.2.lv=lev∧(lev=0→x.2.fi=x.1)∧lowOK prev x.2.low
def RndQ (w0:World) (N mb N1 B5 B6 l D:Nat) (r:Loop) (bs:List Int) (lev:Int) (prev:Option Int) (pre:List (Int×NodeA)) (x:Int×NodeA) (W:World):Exit→Act→World→Prop
 | .normal,_,W3=>nodeFits bs lev prev x∧LvJ w0 N mb N1 B5 B6 l D r lev (pre++[x]) W3∧KeepL N1 l B6 W W3
 | .panic ch,a,W3=>a.defers=[]∧ch=errC∧ ¬nodeFits bs lev prev x∧Below N w0 W3∧W3.heap[D]?=some (.deferred (some []))
 | _,_,_=>False
theorem LvJ.putL {w0:World} {N mb N1 B5 B6 l D:Nat} {r r':Loop} {lev:Int} {pre:List (Int×NodeA)} {W:World} (h:LvJ w0 N mb N1 B5 B6 l D r lev pre W) (hl:l≠B5∧l≠B6∧l≠D∧w0.heap.size≤l):LvJ w0 N mb N1 B5 B6 l D r' lev pre (W.putObj l (.loop r')):=by
 obtain⟨rv,h1,h2⟩:=h.row
 have hlt:=(Array.getElem?_eq_some_iff.1 h.loop.lp).1
 have ho:Only [l] W (W.putObj l (.loop r')):=(Only.refl _ _).putObj (Or.inl (by simp)) _
 refine⟨⟨World.putObj_heap_same hlt,(World.putObj_heap_other (fun e=>hl.2.2.1 e.symm)).trans h.loop.df⟩,ho.blk h.b5 (by simp;exact fun e=>hl.1 e.symm),⟨rv,ho.blk h1 (by simp;exact fun e=>hl.2.1 e.symm),ho.own h2 (fun k hk hm=> ?_)⟩,h.only'.trans ho (fun x hx=>Or.inr (by rw[List.mem_singleton.1 hx];exact hl.2.2.2)),h.base⟩
 obtain⟨cs,t,fr,hc⟩:=own_cells h2 k hk
 rw[List.mem_singleton.1 hm,h.loop.lp] at hc
 cases hc
theorem Level_loop {n:Nat} {f0:FuncId} {tmps:Array Value} {assign body:Code} {A1:Int×NodeA→Nat→Act} (hf: ∃fn,Tryz.prog.funcs[f0]?=some fn) (w0:World) (N N1 B5 B6 l D:Nat) (B:LkP) (bs:List Int) (root:Int) (lv pr:Value) (R0:List Int) (lev a0:Int) (Ba Bl:Nat) (W:World) (ha0:0≤a0∧a0≤18446744073709551615)
  (hlt:B.lb<w0.heap.size∧B.wb<w0.heap.size∧B.hb<w0.heap.size∧B.mb<w0.heap.size) (hb5:B5=w0.heap.size) (hb6:B6=w0.heap.size+1) (hbl:Bl=w0.heap.size+2) (hba:Ba=w0.heap.size+3) (hN1:N1=w0.heap.size+4) (hD:D=w0.heap.size+4) (hl:l=w0.heap.size+5) (hNw:N≤w0.heap.size) (hmN:N≤B.mb)
  (hsz:W.heap.size=w0.heap.size+6)
  (hR0: ∀a∈R0,∀nd,nodeI bs a=some nd→nd.lv≠lev)
  (hassign: ∀(x:Int×NodeA) (W1:World),∃W2,Below W1.heap.size W1 W2∧Blk W2 W1.heap.size 55 (nodeC x.2)∧ ∀K:Act→World→Prop,K (A1 x W1.heap.size) W2→assign.wpIn (Fence.wide.inRound l) (n-1) Tryz.prog (Exit.then K (fun _ _ _=>False)) { tmps:=((#[15,16]:Array Tmp).zip #[.int .u64 x.1,.agg (nodeC x.2)]).foldl (fun t (p,v)=>t.setIfInBounds p v) tmps,defers:=[] } W1)
  (hbody: ∀pre prev x nb W1,ChainTo (nodeI bs) lev a0 pre prev x.1→pre.length≤1000000→N1≤nb→nb≠l→LvJ w0 N B.mb N1 B5 B6 l D (recF f0 tmps #[15,16] assign body D .busy) lev pre W1→Blk W1 nb 55 (nodeC x.2)→body.wpIn (Fence.wide.inRound l) (n-1) Tryz.prog (RndQ w0 N B.mb N1 B5 B6 l D (recF f0 tmps #[15,16] assign body D .busy) bs lev prev pre x W1) (A1 x nb) W1)
  (h0:LvJ w0 N B.mb N1 B5 B6 l D (recF f0 tmps #[15,16] assign body D .ready) lev [] W) (hL:LookIs W N B bs root lv pr R0) (hBa:Blk W Ba 51 #[.int .u64 a0]) (hBl:W.cell? ⟨Bl,0,none⟩=some (.pointer (some ⟨B.lb,0,none⟩))) (hfew:bs.length≤1000000):
  CallsIn Fence.wide n Tryz.prog 241 #[.func (.yield l) #[] #[],.pointer (some ⟨Ba,0,none⟩),.pointer (some ⟨Bl,0,none⟩)] W fun e W'=>
   ((∃v,e= .returned v)∧ ∃row,ChainAt (nodeI bs) lev none a0 row∧LvJ w0 N B.mb N1 B5 B6 l D (recF f0 tmps #[15,16] assign body D .ready) lev row W'∧LookIs W' N B bs root lv pr (R0++row.map (·.1)))∨
   (e= .panicked errC∧(∀r,¬ChainAt (nodeI bs) lev none a0 r)∧Below N w0 W'∧W'.heap[D]?=some (.deferred (some []))):=by
 refine Chain1_in n l N N1 B6 B bs root lv pr R0 lev a0 Ba Bl (fun pre W=>LvJ w0 N B.mb N1 B5 B6 l D (recF f0 tmps #[15,16] assign body D .ready) lev pre W∧W.heap.size≥N1∧ ∀x∈pre,0≤x.1) (fun W=>Below N w0 W∧W.heap[D]?=some (.deferred (some []))) W ha0 (by omega) (by omega) (by omega) (by omega) hR0 ?_ ?_ ?_ ⟨h0,by omega,fun x hx=>by cases hx⟩ hL hBa hBl |>.mono ?_
 ·rintro pre A A' ⟨h1,h2,h3⟩ ho
  exact⟨h1.only ho (fun k hk=>by simp at hk;omega) (by omega),by have:=ho.size;omega,h3⟩
 ·rintro pre A A' ⟨h1,h2,h3⟩ ho
  have h4:=h1.only ho (fun k hk=>by simp at hk;omega) (by omega)
  exact⟨h4.bel,h4.loop.df⟩
 ·rintro pre prev x W1 hC hx0 hxp hnd ⟨hJ,hs1,hpos⟩
  obtain⟨W2,hb2,k2,hA⟩:=hassign x W1
  have hJ2:LvJ w0 N B.mb N1 B5 B6 l D (recF f0 tmps #[15,16] assign body D .ready) lev pre W2:=by
   have:=hJ.only (Only.of_below hb2 []) (fun k hk=>by cases hk) (by omega)
   exact this
  have hlW:=(Array.getElem?_eq_some_iff.1 hJ.loop.lp).1
  have hy:=yield_pan2 (P:=Tryz.prog) (n:=n-1) (l:=l) (D:=D) (W:=W1) (W2:=W2) (a1:=A1 x W1.heap.size) (args:= #[.int .u64 x.1,.agg (nodeC x.2)]) (J:=fun W'=>nodeFits bs lev prev x∧LvJ w0 N B.mb N1 B5 B6 l D (recF f0 tmps #[15,16] assign body D .ready) lev (pre++[x]) W'∧KeepL N1 l B6 W1 W') (Pp:=fun ch W'=>ch=errC∧ ¬nodeFits bs lev prev x∧Below N w0 W'∧W'.heap[D]?=some (.deferred (some []))) hf (by omega) hJ.loop hJ2.loop rfl hA ?_
  ·refine hy.mono ?_
   rintro e W' (⟨rfl,_,h1,h2,h3⟩ | ⟨ch,rfl,rfl,hno,hb⟩)
   ·refine Or.inl ⟨rfl,h1.1,h1.2.1,h1.2.2,⟨h2,by have:=h3.1;omega,fun y hy=> ?_⟩,h3⟩
    rcases List.mem_append.1 hy with h | h
    ·exact hpos y h
    ·rw[List.mem_singleton.1 h];exact hxp
   ·exact Or.inr ⟨rfl,hC.no hx0 fun nd hnd2 q1 q2 q3=>hno (by rw[hnd] at hnd2;injection hnd2 with hnd2;subst hnd2;exact⟨q1,q2,q3⟩),hb⟩
  ·intro W' hW' hl'
   have ho:Only [l] W2 W':=by rw[hW'];exact(Only.refl _ _).putObj (Or.inl (by simp)) _
   have hb:=hbody pre prev x W1.heap.size W' hC (Nat.le_trans (chain_few hC hL.fix.some' hpos) hfew) (by omega) (by omega) (by rw[hW'];exact hJ2.putL (by omega)) (ho.blk k2 (by simp;omega))
   refine wpIn_mono hb ?_
   intro e a W3 h
   cases e with
   | normal=>
    refine⟨h.2.1.loop,h.1,h.2.1.putL (by omega),?_⟩
    refine(KeepL.of_below hb2).trans (KeepL.trans ?_ (h.2.2.trans (KeepL.putL _ _ _ _ _)))
    rw[hW'];exact KeepL.putL _ _ _ _ _
   | panic ch=>exact⟨h.1,h.2⟩
   | ret=>exact h.elim
   | exit id=>exact h.elim
   | goto t=>exact h.elim
   | outgrown=>exact h.elim
 ·rintro e W' (⟨h1,row,h2,⟨h3,_,_⟩,h4⟩ | h)
  ·exact Or.inl ⟨h1,row,h2,h3,h4⟩
  ·exact Or.inr h
end
section
def bldR (P:Program) (t:TypeId) (ps:Array (Nat×Value)) (w:World):Result Value:=(Instr.build t ps).run P w
def bldM (t:TypeId) (ps:Array (Nat×Value)):Sem Value:=Instr.build t ps
theorem bldM_run (P:Program) (t:TypeId) (ps:Array (Nat×Value)) (w:World):(bldM t ps).run P w=bldR P t ps w:=rfl
theorem linkBuild (ps:Array (Nat×Value)):Instr.build 196 ps=bldM 196 ps:=rfl
def bslR (P:Program) (t:TypeId) (n:Nat) (ps:Array (Nat×Value)) (w:World):Result Value:=(Instr.buildSlice t n ps).run P w
def bslM (t:TypeId) (n:Nat) (ps:Array (Nat×Value)):Sem Value:=Instr.buildSlice t n ps
theorem bslM_run (P:Program) (t:TypeId) (n:Nat) (ps:Array (Nat×Value)) (w:World):(bslM t n ps).run P w=bslR P t n ps w:=rfl
theorem linkBuildS (n:Nat) (ps:Array (Nat×Value)):Instr.buildSlice 148 n ps=bslM 148 n ps:=rfl
attribute [local go_sem ↓ high] linkBuild linkBuildS
attribute [local go_sem] bldM_run bslM_run
theorem link_built (n:NodeA) (a:Int) (w:World):bldR Tryz.prog 196 #[(0,.agg (nodeC n)),(1,.int .u64 a)] w= .ok (.agg (linkL n a 0 false).toArray) w:=by kernel_rfl
theorem link_row (n:NodeA) (a:Int) (w:World):bslR Tryz.prog 148 1 #[(0,.agg (linkL n a 0 false).toArray)] w= .ok (.slice (some ⟨w.heap.size,0,none⟩) 1 1) (w.alloc (.cells (linkL n a 0 false).toArray 196)):=by kernel_rfl
theorem linkL_len (n:NodeA) (a h:Int) (b:Bool):(linkL n a h b).length=24:=rfl
theorem flat24_get {α:Type} (f:Nat→List α) (hf: ∀i,(f i).length=24): ∀(n i j:Nat),i<n→j<24→((List.range n).flatMap f)[i*24+j]?=(f i)[j]?
 | 0,i,j,h,_=>absurd h (Nat.not_lt_zero _)
 | n+1,i,j,h,hj=>by
  have hl:((List.range n).flatMap f).length=n*24:=by
   clear h
   induction n with
   | zero=>rfl
   | succ n ih=>rw[List.range_succ,List.flatMap_append,List.length_append,ih];simp[hf];omega
  rw[List.range_succ,List.flatMap_append]
  by_cases hi:i<n
  ·rw[List.getElem?_append_left (by rw[hl];omega)]
   exact flat24_get f hf n i j hi hj
  ·have:i=n:=by omega
   subst this
   rw[List.getElem?_append_right (by rw[hl];omega),hl,Nat.add_sub_cancel_left]
   simp
theorem flat24_len {α:Type} (f:Nat→List α) (hf: ∀i,(f i).length=24) (n:Nat):((List.range n).flatMap f).length=n*24:=by
 induction n with
 | zero=>rfl
 | succ n ih=>rw[List.range_succ,List.flatMap_append,List.length_append,ih];simp[hf];omega
theorem linkR_len (row:List (Int×NodeA)) (i:Nat):(linkR row i).length=24:=rfl
theorem linksC_eq (row:List (Int×NodeA)):linksC row=(List.range row.length).flatMap (linkR row):=rfl
theorem linksC_at {row:List (Int×NodeA)} {i j:Nat} {x:Int×NodeA} (hx:row[i]?=some x) (hj:j<24):(linksC row)[i*24+j]?=(linkL x.2 x.1 (highI row i) (hasI row i))[j]?:=by
 have hi:=(List.getElem?_eq_some_iff.1 hx).1
 rw[linksC_eq,flat24_get (linkR row) (linkR_len row) _ _ _ hi hj]
 unfold linkR
 rw[hx];rfl
theorem linksC_len (row:List (Int×NodeA)):(linksC row).length=row.length*24:=by
 rw[linksC_eq,flat24_len (linkR row) (linkR_len row)]
theorem own_links {w:World} {base:Nat} {v:Value} {n:Nat} {xs:List Value} (h:w.ownsRow base 196 24 v n xs) (h0:0<n): ∃g cap cur,v= .slice (some ⟨g,0,none⟩) n cap∧base≤g∧n≤cap∧cap≤maxLen∧Blk w g 196 cur∧cur.size=cap*24∧cur.toList.take (n*24)=xs:=by
 rcases h.2 with⟨_,h2⟩ | ⟨g,cap,cur,rfl,h2,h3,h4,h5,h6,h7⟩
 ·omega
 ·exact⟨g,cap,cur,rfl,h2,h4,h5,h3,h6,h7⟩
theorem old_mid {A A':Array Value} (pre post mid mid':List Value) (h:A=(pre++(mid++post)).toArray) (h':A'=(pre++(mid'++post)).toArray) (hl:mid.length=mid'.length) (t:Nat) (ht:t<pre.length∨pre.length+mid.length≤t):A'[t]?=A[t]?:=by
 rw[h,h',List.getElem?_toArray,List.getElem?_toArray]
 rcases ht with ht | ht
 ·rw[List.getElem?_append_left ht,List.getElem?_append_left ht]
 ·rw[List.getElem?_append_right (by omega),List.getElem?_append_right (by omega),List.getElem?_append_right (by omega),List.getElem?_append_right (by omega),hl]
theorem take_at {cur:Array Value} {m:Nat} {xs:List Value} (h:cur.toList.take m=xs) {i:Nat} {x:Value} (hx:xs[i]?=some x):cur[i]?=some x:=by
 rw[←h,List.getElem?_take] at hx
 split at hx
 ·rwa[Array.getElem?_toList] at hx
 ·cases hx
theorem infoLink:(Tryz.prog.info? 196).map (fun i=>(i.zero,i.size,i.bytes))=some (some (.agg (linkL zeroN 0 0 false).toArray),24,192):=by kernel_rfl
theorem own_set {w:World} {base:Nat} {e:TypeId} {size n g cap:Nat} {xs:List Value} (h:w.ownsRow base e size (.slice (some ⟨g,0,none⟩) n cap) n xs) (i:Nat) (u:Value):(w.setCell ⟨g,i,none⟩ u).ownsRow base e size (.slice (some ⟨g,0,none⟩) n cap) n (xs.set i u):=by
 rcases h.2 with⟨h1,_⟩ | ⟨g',cap',cur,h1,h2,h3,h4,h5,h6,h7⟩
 ·cases h1
 ·injection h1 with h1 _ hc
  injection h1 with h1
  injection h1 with h1
  subst h1 hc
  refine⟨by rw[List.length_set];exact h.1,Or.inr ⟨g,cap,cur.setIfInBounds i u,rfl,h2,?_,h4,h5,by rw[Array.size_setIfInBounds];exact h6,?_⟩⟩
  ·exact(show Blk w g e cur from h3).set_ i u
  ·rw[Array.toList_setIfInBounds,List.take_set,h7]
theorem linkR_last (pre:List (Int×NodeA)) (x:Int×NodeA):linkR (pre++[x]) pre.length=linkL x.2 x.1 0 false:=by
 unfold linkR highI hasI
 have h1:(pre++[x])[pre.length]?=some x:=by simp
 have h2:(pre++[x])[pre.length+1]?=none:=by simp
 rw[h1,h2]
 simp
theorem linkR_low (pre:List (Int×NodeA)) (x:Int×NodeA) {i:Nat} (h:i+1<pre.length):linkR (pre++[x]) i=linkR pre i:=by
 unfold linkR highI hasI
 rw[List.getElem?_append_left (by omega),List.getElem?_append_left h]
 have:decide (i+1< (pre++[x]).length)=decide (i+1<pre.length):=by simp;omega
 rw[this]
theorem linkR_mid (pre:List (Int×NodeA)) (x:Int×NodeA) {m:Nat} (h:m+1=pre.length):linkR (pre++[x]) m=((linkR pre m).set 22 (.int .u64 x.2.low)).set 23 (.bool true):=by
 unfold linkR highI hasI
 have h1:(pre++[x])[m+1]?=some x:=by rw[h];simp
 have h2:pre[m+1]?=none:=by rw[h];simp
 rw[List.getElem?_append_left (by omega),h1,h2]
 have:decide (m+1< (pre++[x]).length)=true:=by simp;omega
 rw[this]
 rfl
theorem flat24_congr {α:Type} (f g:Nat→List α): ∀n,(∀i,i<n→f i=g i)→(List.range n).flatMap f=(List.range n).flatMap g
 | 0,_=>rfl
 | n+1,h=>by
  rw[List.range_succ,List.flatMap_append,List.flatMap_append,flat24_congr f g n (fun i hi=>h i (by omega))]
  simp[h n (by omega)]
theorem linksC_one (x:Int×NodeA):linksC [x]=linkL x.2 x.1 0 false:=by
 have:=linkR_last [] x
 unfold linksC
 simp only[List.nil_append,List.length_nil] at this
 simp[this]
theorem linksC_snoc (pre:List (Int×NodeA)) (x:Int×NodeA) {m:Nat} (h:m+1=pre.length):linksC (pre++[x])=((linksC pre).set (m*24+22) (.int .u64 x.2.low)).set (m*24+23) (.bool true)++linkL x.2 x.1 0 false:=by
 have hl:=flat24_len (linkR pre) (linkR_len pre) m
 have e1:linksC pre=(List.range m).flatMap (linkR pre)++linkR pre m:=by
  rw[linksC_eq,←h,List.range_succ,List.flatMap_append];simp
 have e2:linksC (pre++[x])=((List.range m).flatMap (linkR pre)++linkR (pre++[x]) m)++linkL x.2 x.1 0 false:=by
  rw[linksC_eq,List.length_append,List.length_singleton,List.range_succ,List.flatMap_append,←h,List.range_succ,List.flatMap_append,flat24_congr _ (linkR pre) m (fun i hi=>linkR_low pre x (by omega))]
  have:=linkR_last pre x
  rw[←h] at this
  simp[this]
 rw[e2,e1,linkR_mid pre x h,List.set_append_right _ _ (by omega),List.set_append_right _ _ (by omega),hl,show m*24+22-m*24=22 by omega,show m*24+23-m*24=23 by omega]
theorem KeepL.of_own {N1 l B6:Nat} {A A':World} {v:Value} {n:Nat} {xs:List Value} (h:Only v.ownBlock.toList A A') (hr:A.ownsRow N1 196 24 v n xs):KeepL N1 l B6 A A':=by
 refine⟨h.size,fun k o hk h1 h2 h3=>(h.block k (Array.getElem?_eq_some_iff.1 hk).1 (fun hm=> ?_)).trans hk⟩
 have hm':v.ownBlock=some k:=by simpa[Option.mem_toList] using hm
 rcases hr.2 with⟨e1,_⟩ | ⟨g,cap,cur,e1,e2,e3,_⟩
 ·rw[e1] at hm';cases hm'
 ·rw[e1] at hm'
  have:g=k:=by simpa[Value.ownBlock] using hm'
  subst this
  rcases h3 with h3 | h3
  ·omega
  ·rw[e3] at hk
   injection hk with hk
   exact h3 _ _ hk.symm
theorem lv_push {w0:World} {N mb N1 B5 B6 l D:Nat} {r:Loop} {lev:Int} {pre:List (Int×NodeA)} {W2 W5:World} {rv:Value} {xs:List Value} (x:Int×NodeA) (k:Nat) (hk:k=pre.length) (hk6:k≤1000000) (hJ:LvJ w0 N mb N1 B5 B6 l D r lev pre W2) (hb2:Blk W2 B6 148 #[rv]) (hr2:W2.ownsRow N1 196 24 rv k (linksC pre)) (ho5:Only rv.ownBlock.toList W2 W5) (hr5:W5.ownsRow N1 196 24 rv k xs) (hx:xs++linkL x.2 x.1 0 false=linksC (pre++[x])) (hN:w0.heap.size≤N1) (hn5:N1≤W5.heap.size) (hB:B5<N1∧B6<N1∧w0.heap.size≤B6∧l≠B6∧D≠B6∧B5≠B6):
  ∃va vc w9,appRun2 Tryz.prog #[148,148] 148 #[rv,.slice (some ⟨W5.heap.size,0,none⟩) 1 1] (W5.alloc (.cells (linkL x.2 x.1 0 false).toArray 196))= .ok (.slice va (k+1) vc) w9∧Blk w9 B6 148 #[rv]∧
   LvJ w0 N mb N1 B5 B6 l D r lev (pre++[x]) (w9.setCell ⟨B6,0,none⟩ (.slice va (k+1) vc))∧KeepL N1 l B6 W2 (w9.setCell ⟨B6,0,none⟩ (.slice va (k+1) vc)):=by
 have hob: ∀y,rv.ownBlock=some y→N1≤y:=by
  intro y hy
  rcases hr2.2 with⟨e1,_⟩ | ⟨g,cap,cur,e1,e2,_⟩
  ·rw[e1] at hy;cases hy
  ·rw[e1] at hy
   have:g=y:=by simpa[Value.ownBlock] using hy
   omega
 have hnot: ∀y,y<N1→y∉rv.ownBlock.toList:=fun y hy hm=>by have:=hob y (by simpa[Option.mem_toList] using hm);omega
 have hcells: ∀y,rv.ownBlock=some y→ ∀o:Obj,W2.heap[y]?=some o→o.isCells=true:=by
  intro y hy o ho
  obtain⟨cs,t,fr,hc⟩:=own_cells hr2 y hy
  rw[hc] at ho;injection ho with ho;subst ho;rfl
 obtain⟨i0,hi0,hz0,hz1,hz2⟩:=info_parts infoLink
 have h5a:(W5.alloc (.cells (linkL x.2 x.1 0 false).toArray 196)).ownsRow N1 196 24 rv k xs:=((Only.refl [] W5).alloc _).own hr5 (by simp)
 obtain⟨v',w9,hA⟩:=run_app (P:=Tryz.prog) (W5.alloc (.cells (linkL x.2 x.1 0 false).toArray 196)) N1 148 148 196 i0 _ 24 192 Tryz.underlying148 hi0 hz0 hz1 hz2 rfl (by decide) rv k _ h5a (.slice (some ⟨W5.heap.size,0,none⟩) 1 1) 1 (linkL x.2 x.1 0 false) (Or.inr ⟨W5.heap.size,0,1,rfl,fun i u hi=>by
  rw[(Blk.new W5 196 (linkL x.2 x.1 0 false).toArray).cell (0+i),Nat.zero_add,List.getElem?_toArray];exact hi⟩) rfl (fun u hu=>by
   unfold linkL nodeC at hu
   simp at hu
   rcases hu with rfl | rfl | rfl | rfl | rfl | rfl | rfl | rfl | rfl | rfl | rfl | rfl | rfl | rfl | rfl | rfl | rfl | rfl | rfl | rfl | rfl | rfl | rfl | rfl<;>rfl) (by unfold maxLen;omega) (by omega) (by simp;omega)
 have hown:=hA.own
 have hgr:=hA.grown
 obtain⟨va,vc,rfl⟩:=row_form1 hown
 have o9:Only rv.ownBlock.toList W5 w9:=(((Only.refl [] W5).alloc _).mono (fun _ h=>by cases h)).trans (Only.of_grown (f:=rv.ownBlock.toList) hgr (fun y hy=>by simp[hy])) (fun y hy=>Or.inl hy)
 have o29:Only rv.ownBlock.toList W2 w9:=ho5.trans o9 (fun y hy=>Or.inl hy)
 have kb9:Blk w9 B6 148 #[rv]:=o29.blk hb2 (hnot B6 hB.2.1)
 have oS:Only [B6] w9 (w9.setCell ⟨B6,0,none⟩ (.slice va (k+1) vc)):=(Only.refl _ _).setCell (Or.inl (by simp)) _
 have hvb: ∀y,(Value.slice va (k+1) vc).ownBlock=some y→y∉ [B6]:=by
  intro y hy hm
  rw[List.mem_singleton] at hm
  rcases hown.2 with⟨e1,_⟩ | ⟨g,cap,cur,e1,e2,_⟩
  ·rw[e1] at hy;cases hy
  ·rw[e1] at hy
   have:g=y:=by simpa[Value.ownBlock] using hy
   omega
 have hl2:l∉rv.ownBlock.toList:=fun hm=>by
  have:=hcells l (by simpa[Option.mem_toList] using hm) _ hJ.loop.lp
  cases this
 have hD2:D∉rv.ownBlock.toList:=fun hm=>by
  have:=hcells D (by simpa[Option.mem_toList] using hm) _ hJ.loop.df
  cases this
 refine⟨va,vc,w9,hA.run,kb9,⟨⟨(oS.block l (Nat.lt_of_lt_of_le (Array.getElem?_eq_some_iff.1 hJ.loop.lp).1 o29.size) (by simpa using hB.2.2.2.1)).trans ((o29.block l (Array.getElem?_eq_some_iff.1 hJ.loop.lp).1 hl2).trans hJ.loop.lp),(oS.block D (Nat.lt_of_lt_of_le (Array.getElem?_eq_some_iff.1 hJ.loop.df).1 o29.size) (by simpa using hB.2.2.2.2.1)).trans ((o29.block D (Array.getElem?_eq_some_iff.1 hJ.loop.df).1 hD2).trans hJ.loop.df)⟩,oS.blk (o29.blk hJ.b5 (hnot B5 hB.1)) (by simpa using hB.2.2.2.2.2),⟨_,kb9.set_ 0 _,?_⟩,?_,hJ.base⟩,?_⟩
 ·rw[List.length_append,List.length_singleton,←hk]
  have:=oS.own hown hvb
  rwa[hx] at this
 ·exact(hJ.only'.trans o29 (fun y hy=>Or.inr (by have:=hob y (by simpa[Option.mem_toList] using hy);omega))).trans oS (fun y hy=>Or.inr (by rw[List.mem_singleton.1 hy];exact hB.2.2.1))
 ·refine(KeepL.of_own o29 hr2).trans ⟨oS.size,fun y o hy h1 _ _=>(oS.block y (Array.getElem?_eq_some_iff.1 hy).1 (by simpa using h1)).trans hy⟩
theorem linkLoadAt (v:Value):Instr.loadAt 196 v=ldM 196 v:=rfl
theorem linkStoreAt (p v:Value):Instr.storeAt 196 p v=stM 196 p v:=rfl
theorem link_ld {w:World} {b i:Nat} {t:TypeId} {cs:Array Value} {n:NodeA} {a h:Int} {f:Bool} (hb:Blk w b t cs) (hx: ∀j v,(linkL n a h f)[j]?=some v→cs[i+j]?=some v):ldR Tryz.prog 196 (.pointer (some ⟨b,i,none⟩)) w= .ok (.agg (linkL n a h f).toArray) w:=
 hb.ldAt i (fun j v hv=>hx j v (by rwa[List.getElem?_toArray] at hv)) Tryz.underlying196 rfl (by kernel_rfl)
theorem link_new (W:World) (n:NodeA) (a h:Int) (f:Bool): ∃W',stR Tryz.prog 196 (.pointer (some ⟨W.heap.size,0,none⟩)) (.agg (linkL n a h f).toArray) (W.alloc (.cells #[.int .i64 0,.int .u64 0,.int .u64 0,.int .u64 0,.int .u64 0,.int .u64 0,.int .u64 0,.int .u64 0,.int .u64 0,.int .u64 0,.int .u64 0,.int .u64 0,.int .u64 0,.int .u64 0,.int .u64 0,.int .u64 0,.int .u64 0,.int .u64 0,.int .u64 0,.int .u64 0,.int .u64 0,.int .u64 0,.int .u64 0,.bool false] 196))= .ok () W'∧Blk W' W.heap.size 196 (linkL n a h f).toArray∧Below W.heap.size W W':=by
 have hb:Blk (W.alloc (.cells #[.int .i64 0,.int .u64 0,.int .u64 0,.int .u64 0,.int .u64 0,.int .u64 0,.int .u64 0,.int .u64 0,.int .u64 0,.int .u64 0,.int .u64 0,.int .u64 0,.int .u64 0,.int .u64 0,.int .u64 0,.int .u64 0,.int .u64 0,.int .u64 0,.int .u64 0,.int .u64 0,.int .u64 0,.int .u64 0,.int .u64 0,.bool false] 196)) W.heap.size 196 (linkL zeroN 0 0 false).toArray:=Blk.new W _ _
 refine⟨_,hb.st (by kernel_rfl) rfl (by kernel_rfl),setRow_heap _ _ _ _ _ _ hb,?_⟩
 have h1:Only [W.heap.size] (W.alloc (.cells #[.int .i64 0,.int .u64 0,.int .u64 0,.int .u64 0,.int .u64 0,.int .u64 0,.int .u64 0,.int .u64 0,.int .u64 0,.int .u64 0,.int .u64 0,.int .u64 0,.int .u64 0,.int .u64 0,.int .u64 0,.int .u64 0,.int .u64 0,.int .u64 0,.int .u64 0,.int .u64 0,.int .u64 0,.int .u64 0,.int .u64 0,.bool false] 196)) ((W.alloc (.cells #[.int .i64 0,.int .u64 0,.int .u64 0,.int .u64 0,.int .u64 0,.int .u64 0,.int .u64 0,.int .u64 0,.int .u64 0,.int .u64 0,.int .u64 0,.int .u64 0,.int .u64 0,.int .u64 0,.int .u64 0,.int .u64 0,.int .u64 0,.int .u64 0,.int .u64 0,.int .u64 0,.int .u64 0,.int .u64 0,.int .u64 0,.bool false] 196)).setRow W.heap.size (linkL n a h f).toArray):=⟨rfl,rfl,rfl,by simp,fun x hx hn=>setRow_other _ _ x _ (by simpa using hn)⟩
 exact(((Only.refl [W.heap.size] W).alloc _).trans h1 (fun _ h=>Or.inl h)).below (by simp) (Nat.le_refl _)
theorem link_node {w:World} {b:Nat} {n:NodeA} {a h:Int} {f:Bool} (hb:Blk w b 196 (linkL n a h f).toArray):ldR Tryz.prog 55 (.pointer (some ⟨b,0,none⟩)) w= .ok (.agg (nodeC n)) w:=
 hb.ldAt 0 (fun j v hv=>by
  rw[Nat.zero_add,List.getElem?_toArray]
  unfold linkL
  rw[←Array.getElem?_toList] at hv
  rw[List.getElem?_append_left (List.getElem?_eq_some_iff.1 hv).1]
  exact hv) Tryz.underlying55 rfl (by kernel_rfl)
def RowAt (W:World) (N:Nat) (v:Value) (row:List (Int×NodeA)):Prop:=W.ownsRow N 196 24 v row.length (linksC row)
structure LvlsAt (W:World) (N:Nat) (B:LkP) (lv:Value) (rows:List (List (Int×NodeA))):Prop where
 own: ∃vs,vs.length=rows.length∧W.ownsRow N 148 1 lv rows.length vs∧(∀(i:Nat) (row:List (Int×NodeA)),rows[i]?=some row→ ∃v,vs[i]?=some v∧RowAt W N v row)
 apart: ∀k,lv.ownBlock=some k→k≠B.lb∧k≠B.wb∧k≠B.hb∧k≠B.mb
def LvPost (w:World) (N:Nat) (B:LkP) (bs:List Int) (root:Int) (pr:Value) (R0:List Int) (rows:List (List (Int×NodeA))) (lev a0:Int) (e:Ending) (w':World):Prop:=
 Below N w w'∧((∃row lv',ChainAt (nodeI bs) lev none a0 row∧mayRow row∧e= .returned (.tuple #[])∧LookIs w' N B bs root lv' pr (R0++row.map (·.1))∧LvlsAt w' N B lv' (rows++[row]))∨((∀row,¬(ChainAt (nodeI bs) lev none a0 row∧mayRow row))∧e= .panicked errC))
theorem LvlsAt.only {W W':World} {N:Nat} {B:LkP} {lv:Value} {rows:List (List (Int×NodeA))} {f:List Nat} (h:LvlsAt W N B lv rows) (ho:Only f W W') (hf: ∀k∈f,W.heap.size≤k∨(∀cs fr,W.heap[k]?≠some (.cells cs 196 fr)∧W.heap[k]?≠some (.cells cs 148 fr))):LvlsAt W' N B lv rows:=by
 obtain⟨vs,h1,h2,h3⟩:=h.own
 refine⟨⟨vs,h1,ho.own h2 (fun k hk hm=> ?_),fun i row hi=> ?_⟩,h.apart⟩
 ·rcases h2.2 with⟨e1,_⟩ | ⟨g,cap,cur,e1,e2,e3,_⟩
  ·rw[e1] at hk;cases hk
  ·rw[e1] at hk
   have:g=k:=by simpa[Value.ownBlock] using hk
   subst this
   rcases hf g hm with h | h
   ·have:=(Array.getElem?_eq_some_iff.1 e3).1;omega
   ·exact(h cur (0,0)).2 e3
 ·obtain⟨v,q1,q2⟩:=h3 i row hi
  refine⟨v,q1,ho.own q2 (fun k hk hm=> ?_)⟩
  rcases q2.2 with⟨e1,_⟩ | ⟨g,cap,cur,e1,e2,e3,_⟩
  ·rw[e1] at hk;cases hk
  ·rw[e1] at hk
   have:g=k:=by simpa[Value.ownBlock] using hk
   subst this
   rcases hf g hm with h | h
   ·have:=(Array.getElem?_eq_some_iff.1 e3).1;omega
   ·exact(h cur (0,0)).1 e3
theorem infoRow:(Tryz.prog.info? 148).map (fun i=>(i.zero,i.size,i.bytes))=some (some (.slice none 0 0),1,24):=by kernel_rfl
theorem own_typed {W:World} {base n size:Nat} {e:TypeId} {v:Value} {xs:List Value} (h:W.ownsRow base e size v n xs): ∀k,v.ownBlock=some k→base≤k∧ ∃cs,W.heap[k]?=some (.cells cs e (0,0)):=by
 intro k hk
 rcases h.2 with⟨e1,_⟩ | ⟨g,cap,cur,e1,e2,e3,_⟩
 ·rw[e1] at hk;cases hk
 ·rw[e1] at hk
  have:g=k:=by simpa[Value.ownBlock] using hk
  subst this
  exact⟨e2,cur,e3⟩
theorem lvls_push {W:World} {N:Nat} {B:LkP} {bs:List Int} {root:Int} {lv pr:Value} {R:List Int} {rows:List (List (Int×NodeA))} {row:List (Int×NodeA)} {rv:Value} (hL:LookIs W N B bs root lv pr R) (hV:LvlsAt W N B lv rows) (hrow:RowAt W N rv row) (hN:N≤W.heap.size) (hrl:rows.length≤1000) (h1:rv.oneCell'=true):
  ∃va vc w9,appRun2 Tryz.prog #[140,140] 140 #[lv,.slice (some ⟨W.heap.size,0,none⟩) 1 1] ((W.alloc (.cells #[rv] 148)).drew)= .ok (.slice va (rows.length+1) vc) w9∧w9.cell? ⟨B.lb,4,none⟩=some lv∧w9.frozen? ⟨B.lb,4,none⟩=false∧
   LookIs (w9.setCell ⟨B.lb,4,none⟩ (.slice va (rows.length+1) vc)) N B bs root (.slice va (rows.length+1) vc) pr R∧LvlsAt (w9.setCell ⟨B.lb,4,none⟩ (.slice va (rows.length+1) vc)) N B (.slice va (rows.length+1) vc) (rows++[row])∧Below N W (w9.setCell ⟨B.lb,4,none⟩ (.slice va (rows.length+1) vc))∧Only (B.lb::lv.ownBlock.toList) W (w9.setCell ⟨B.lb,4,none⟩ (.slice va (rows.length+1) vc)):=by
 obtain⟨vs,q1,q2,q3⟩:=hV.own
 obtain⟨i0,hi0,hz0,hz1,hz2⟩:=info_parts infoRow
 have hna: ∀k,lv.ownBlock=some k→N≤k∧k<W.heap.size:=fun k hk=>by
  obtain⟨h2,cs,h3⟩:=own_typed q2 k hk
  exact⟨h2,(Array.getElem?_eq_some_iff.1 h3).1⟩
 have h5a:((W.alloc (.cells #[rv] 148)).drew).ownsRow N 148 1 lv rows.length vs:=(((Only.refl [] W).alloc _).drew).own q2 (by simp)
 obtain⟨v',w9,hA⟩:=run_app (P:=Tryz.prog) ((W.alloc (.cells #[rv] 148)).drew) N 140 140 148 i0 _ 1 24 Tryz.underlying140 hi0 hz0 hz1 hz2 rfl (by decide) lv rows.length _ h5a (.slice (some ⟨W.heap.size,0,none⟩) 1 1) 1 [rv] (Or.inr ⟨W.heap.size,0,1,rfl,fun i u hi=>by
  rw[(Blk.new W 148 #[rv]).drew.cell (0+i),Nat.zero_add];simpa using hi⟩) rfl (fun u hu=>by rw[List.mem_singleton.1 hu];exact h1) (by unfold maxLen;omega) (by omega) (by simp;omega)
 have hown:=hA.own
 have hgr:=hA.grown
 have hob:=hA.ob
 obtain⟨va,vc,rfl⟩:=row_form1 hown
 have o9:Only lv.ownBlock.toList W w9:=((((Only.refl [] W).alloc _).drew).mono (fun _ h=>by cases h)).trans (Only.of_grown (f:=lv.ownBlock.toList) hgr (fun y hy=>by simp[hy])) (fun y hy=>Or.inl hy)
 have hap: ∀y,y∈lv.ownBlock.toList→y≠B.lb∧y≠B.wb∧y≠B.hb∧y≠B.mb:=fun y hy=>hV.apart y (by simpa[Option.mem_toList] using hy)
 have hL9:LookIs w9 N B bs root lv pr R:=hL.only o9 (fun hm=>(hap _ hm).1 rfl) (fun hm=>(hap _ hm).2.1 rfl) (fun hm=>(hap _ hm).2.2.1 rfl) (fun hm=>(hap _ hm).2.2.2 rfl)
 have oS:Only [B.lb] w9 (w9.setCell ⟨B.lb,4,none⟩ (.slice va (rows.length+1) vc)):=(Only.refl _ _).setCell (Or.inl (by simp)) _
 have hne:=hL9.ne
 have hap': ∀k,(Value.slice va (rows.length+1) vc).ownBlock=some k→k≠B.lb∧k≠B.wb∧k≠B.hb∧k≠B.mb:=by
  intro k hk
  rcases hob with h | h
  ·exact hV.apart k (h▸hk)
  ·rw[h] at hk
   injection hk with hk
   have e1:=hL.cells.lt
   have e2:=hL.fix.words.1
   have e3:=hL.fix.hlt
   have e4:=hL.set.lt
   have e5:((W.alloc (.cells #[rv] 148)).drew).heap.size=W.heap.size+1:=World.size_alloc _ _
   omega
 have oAll:Only (B.lb::lv.ownBlock.toList) W (w9.setCell ⟨B.lb,4,none⟩ (.slice va (rows.length+1) vc)):=(o9.mono (fun _ h=>List.mem_cons_of_mem _ h)).trans oS (fun x hx=>Or.inl (by rw[List.mem_singleton.1 hx];exact List.mem_cons_self ..))
 have hkeep: ∀v r,RowAt W N v r→RowAt (w9.setCell ⟨B.lb,4,none⟩ (.slice va (rows.length+1) vc)) N v r:=by
  intro v r hr
  refine oAll.own hr (fun k hk hm=> ?_)
  obtain⟨_,cs,hc⟩:=own_typed hr k hk
  rcases List.mem_cons.1 hm with e | e
  ·have hb:W.heap[B.lb]?=_:=hL.cells
   rw[←e,hc] at hb
   injection hb with hb
   injection hb with _ hb
   cases hb
  ·obtain⟨_,cs',hc'⟩:=own_typed q2 k (by simpa[Option.mem_toList] using e)
   rw[hc] at hc'
   injection hc' with hc'
   injection hc' with _ hc'
   cases hc'
 refine⟨va,vc,w9,hA.run,hL9.cells.cell 4,hL9.cells.frozen 4,⟨hL9.cells.set_ 4 _,hL9.fix.only oS (by simp;omega) (by simp;omega),hL9.set.only oS (by simp;omega),hL9.ge,hne⟩,⟨⟨vs++[rv],by simp[q1],?_,fun i r hi=> ?_⟩,hap'⟩,?_,oAll⟩
 ·have:=oS.own hown (fun k hk hm=>(hap' k hk).1 (by simpa using hm))
  rw[List.length_append,List.length_singleton]
  exact this
 ·by_cases hlt:i<rows.length
  ·rw[List.getElem?_append_left hlt] at hi
   obtain⟨v,e1,e2⟩:=q3 i r hi
   exact⟨v,by rw[List.getElem?_append_left (by omega)];exact e1,hkeep v r e2⟩
  ·have hil:=(List.getElem?_eq_some_iff.1 hi).1
   simp at hil
   have:i=rows.length:=by omega
   subst this
   rw[List.getElem?_append_right (Nat.le_refl _),Nat.sub_self] at hi
   injection hi with hi
   subst hi
   refine⟨rv,?_,hkeep rv row hrow⟩
   rw[List.getElem?_append_right (by omega),q1,Nat.sub_self];rfl
 ·refine oAll.below (fun x hx=> ?_) hN
  rcases List.mem_cons.1 hx with e | e
  ·rw[e];exact hL.ge.1
  ·exact(hna x (by simpa[Option.mem_toList] using e)).1
def CalmL (Q:Exit→Act→World→Prop):Exit→Act→World→Prop
 | .panic _,_,_=>False
 | e,a,w=>Q e a w
theorem CalmL.imp {Q:Exit→Act→World→Prop}: ∀(e:Exit) (a:Act) (w:World),CalmL Q e a w→Q e a w:=fun e a w h=>by
 cases e<;>first | exact h | exact(h:False).elim
theorem CalmL.normal {Q:Exit→Act→World→Prop} {a:Act} {w:World} (h:Q .normal a w):CalmL Q .normal a w:=h
theorem postM_end {n:Nat} {P:Program} {fn:Func} {R:Ending→World→Prop} {t:Array Value} {D:Nat} {W:World} (v:Value) (h:W.heap[D]?=some (.deferred (some []))) (hres:(results fn t).run P (W.putObj D (.deferred none))= .ok v (W.putObj D (.deferred none))) (hR:R (.returned v) (W.putObj D (.deferred none))):
  bodyPostM Fence.wide n P fn R Exit.normal { tmps:=t,defers:=[{ target:= .collected D,args:= #[] }] } W:=
 ⟨by simp,.inl ⟨_,_,rfl,run_takeDeferred h,⟨v,hres,hR⟩⟩⟩
theorem postM_pan {n:Nat} {P:Program} {fn:Func} {R:Ending→World→Prop} {t:Array Value} {D:Nat} {W:World} {ch:List PanicEntry} (h:W.heap[D]?=some (.deferred (some []))) (hR:R (.panicked ch) (W.putObj D (.deferred none))):
  bodyPostM Fence.wide n P fn R (Exit.panic ch) { tmps:=t,defers:=[{ target:= .collected D,args:= #[] }] } W:=
 ⟨by simp,.inl ⟨_,_,rfl,run_takeDeferred h,hR⟩⟩
end
end Go.Proofs.YtibiekfjbibpbaaGreat
