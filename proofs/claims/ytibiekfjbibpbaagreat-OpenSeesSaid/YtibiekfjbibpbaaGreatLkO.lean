import Derived.Test.YtibiekfjbibpbaaGreatLokL
set_option maxRecDepth 100000
set_option maxHeartbeats 4000000
set_option linter.unusedVariables false
set_option linter.unusedSimpArgs false
namespace Go.Proofs.YtibiekfjbibpbaaGreat
open Go.RowKit
section
def x3q (bs:List Int):Prop:=q3p (wAt bs 0) (wAt bs 1) (wAt bs 2) (wAt bs 3) (wAt bs 4) (wAt bs 5) (wAt bs 6) (wAt bs 7)=true/\mayZ (wAt bs 1) (wAt bs 2) bs.length=true
theorem v7r (v:Value):Instr.loadAt 52 v=ldM 52 v:=rfl
attribute [local go_sem ↓ high] v7r
attribute [local go_sem] q1x q1p q1v
theorem v9c (b k c:Nat) (w:World):Sem.run Tryz.prog (Instr.arrayAt 52 (.slice (some ⟨b,k,none⟩) 8 c)) w= .ok (.pointer (some ⟨b,k,none⟩)) w:=by kernel_rfl
theorem q8v {bs:List Int} (hb:∀x∈bs,0<=x/\x<256) {k:Nat} (hk:k<bs.length/8):0<=wAt bs k/\wAt bs k<=18446744073709551615:=by obtain⟨x,_,h1,h2⟩:=q3l hb hk;omega
theorem x5f {w:World} {wb:Nat} {bs:List Int} (hb:∀x∈bs,0<=x/\x<256) (h:q1r w wb 0 (q5g bs)) (hk:8<=bs.length/8):ldR Tryz.prog 52 (.pointer (some ⟨wb,0,none⟩)) w= .ok (q6e (wAt bs 0) (wAt bs 1) (wAt bs 2) (wAt bs 3) (wAt bs 4) (wAt bs 5) (wAt bs 6) (wAt bs 7)) w:=by
 have hr:w.rangeAt wb 0 [.int .u64 (wAt bs 0),.int .u64 (wAt bs 1),.int .u64 (wAt bs 2),.int .u64 (wAt bs 3),.int .u64 (wAt bs 4),.int .u64 (wAt bs 5),.int .u64 (wAt bs 6),.int .u64 (wAt bs 7)]:=by intro j v hv;have hj:j<8:=(AE.1 hv).1;obtain⟨x,hx,I,_⟩:=q3l hb (k:=j) (by omega);have:=h.2 j x hx;rw[this,I];rcases(by omega:j=0\/j=1\/j=2\/j=3\/j=4\/j=5\/j=6\/j=7) with rfl|rfl|rfl|rfl|rfl|rfl|rfl|rfl<;>exact hv
 have:=run_loadAt_mid (P:=Tryz.prog) w wb 0 52 _ _ hr Tryz.underlying52 rfl (by kernel_rfl);simpa[ldR,q6e] using this
theorem v2x (N:Nat) (B:LkP) (bs:List Int) (n:Nat) (hn:n=bs.length) (w:World) (h:q1j w N B bs 0 (.slice none 0 0) (.slice none 0 0) []):
  Calls Tryz.prog 150 #[.pointer (some ⟨B.lb,0,none⟩),.int .i64 n] w fun e w'=>(x3q bs/\e= .returned (.tuple #[])/\q1j w' N B bs (wAt bs 2) (.slice none 0 0) (.slice none 0 0) []/\Only [B.lb] w w')\/(¬x3q bs/\e= .panicked errC/\Below w.heap.size w w'):=by
 have c0:w.cell? ⟨B.lb,0,none⟩=some (.slice (some ⟨B.wb,0,none⟩) (bs.length/8) B.wc):=h.cells.cell 0;have ha:=h.fix.nums;have hf:=h.fix.wc;have hb:=h.fix.byte;have h7:=x5f hb h.fix.words (by omega);have hg:=v9c B.wb 0 B.wc w;have b0:=q8v hb (show 0<bs.length/8 by omega);have b1:=q8v hb (show 1<bs.length/8 by omega);have b2:=q8v hb (show 2<bs.length/8 by omega);have b3:=q8v hb (show 3<bs.length/8 by omega);have OF:=hid (Of_z (wAt bs 0) (wAt bs 1) (wAt bs 2) (wAt bs 3) (wAt bs 4) (wAt bs 5) (wAt bs 6) (wAt bs 7) w b1.1 b1.2 b2.1 b2.2);have MA:=hid (fun W=>v7j (wAt bs 1) (wAt bs 2) bs.length W b1.1 b1.2 b2.1 b2.2 (by omega) (by omega));have i8:(8:Int)<=(B.wc:Int):=by omega
 have h8:(8:Int)<=((bs.length/8:Nat):Int):=by omega
 obtain⟨q,hq⟩:∃q,q=bs.length/8:=⟨_,rfl⟩;rw[<- hq] at c0 h8;have H:=hid h;have HQ:=hid hq;have HN:=hid hn;have hh:8<=B.wc:=by omega
 subst hn;clear h ha hf hb b0 b1 b2 b3 hq;have MY:=hid q4t;have MN:=hid q6f;have FI:Hid (∀W,Calls Tryz.prog 88 #[.int .i64 0] W fun e w'=>e= .returned (.bool true)/\W=w'):=hid (fun W=>z3i 0 W);have FN:Hid (∀W,Calls Tryz.prog 88 #[.int .i64 6] W fun e w'=>e= .returned (.bool false)/\W=w'):=hid (fun W=>z3i 6 W);obtain⟨r,hr⟩:∃r,r=wAt bs 2:=⟨_,rfl⟩;obtain⟨z,hz⟩:∃z,z=wAt bs 1:=⟨_,rfl⟩;cases hw:q3p (wAt bs 0) (wAt bs 1) (wAt bs 2) (wAt bs 3) (wAt bs 4) (wAt bs 5) (wAt bs 6) (wAt bs 7) with
 | false=>
  have L:=OF.out;rw[v4w hw] at L;have OF:=hid L;have I:=hid hw;clear hw L hr hz;go_enter Tryz.func150,Tryz.ntmps150;go_wp2_with fail;refine OF.out.mono ?_;rintro e w1 ⟨rfl,M⟩;have h1:=hid M;clear M;go_wp2_with fail;refine(FN.out _).mono ?_;rintro e w2 ⟨rfl,rfl⟩;go_wp2_with fail;refine(MN.out _).mono ?_;rintro e w2 ⟨rfl,rfl⟩;refine⟨rfl,Or.inr ⟨fun Y=> ?_,rfl,?_⟩⟩;·have:=Y.1;rw[I.out] at this;cases this
  ·exact bx h1.out (by(repeat(first|exact Below.refl _ _|(refine ba ?_ _)|(refine Below.drew ?_)|(refine below_drewN ?_ _)|(refine Below.alloc ?_ (by first|omega|simp<;>omega) _)|(refine Below.setCell ?_ (by first|omega|simp<;>omega) _)|(refine bx ?_ (by assumption))|(refine Below.trans ?_ (Below.mono (by assumption) (by first|omega|simp<;>omega))))))
 | true=>
  have L:=OF.out;rw[x8m hw,<- hr,<- hz] at L;rw[<- hr,<- hz] at h7;have OF:=hid L;have O:=MA.out;rw[<- hr,<- hz] at O;obtain⟨m,hm⟩:∃m,m=mayZ z r bs.length:=⟨_,rfl⟩;rw[<- hm] at O;have MA:=hid O;have I:=hid (⟨hw,hr,hz,hm⟩:_/\_/\_/\_);clear hw L O hr hz hm;go_enter Tryz.func150,Tryz.ntmps150;go_wp2_with fail;refine OF.out.mono ?_;rintro e w1 ⟨rfl,M⟩;have h1:=hid M;clear M;obtain⟨W2,S⟩:∃W2,W2=w1.alloc (.cells #[.int .u64 z,.int .u64 r] 187):=⟨_,rfl⟩;have h4:Below w1.heap.size w1 W2:=by rw[S];exact ba (Below.refl _ _) _
  have k2:Blk W2 w1.heap.size 187 #[.int .u64 z,.int .u64 r]:=by rw[S];exact Blk.new _ _ _
  have d0:W2.cell? ⟨w1.heap.size,0,none⟩=some (.int .u64 z):=k2.cell 0;have d1:W2.cell? ⟨w1.heap.size,1,none⟩=some (.int .u64 r):=k2.cell 1;have h5:=hid (bx h1.out h4);have h9:=hid k2;have he:=hid S;clear h4 k2 S;go_wp2_with fail;rw[<- he.out];refine(FI.out W2).mono ?_;rintro e w3 ⟨rfl,rfl⟩;go_wp2_with fail;refine(MA.out W2).mono ?_;rintro e w3 ⟨rfl,h2⟩;have e1:w3.cell? ⟨w1.heap.size,1,none⟩=some (.int .u64 r):=(h9.out.bel h2).cell 1;have U:=hid (bx h5.out h2);clear h2 d0 d1;cases m;·go_wp2_with fail;refine(MN.out w3).mono ?_;rintro e w4 ⟨rfl,rfl⟩;refine⟨rfl,Or.inr ⟨fun Y=> ?_,rfl,U.out⟩⟩;have:=Y.2;rw[<- I.out.2.1,<- I.out.2.2.1,<- I.out.2.2.2] at this;cases this
  ·go_wp2_with fail;refine(MY.out w3).mono ?_;rintro e w4 ⟨rfl,rfl⟩;have h3:=H.out.bel U.out;have g2:w3.cell? ⟨B.lb,2,none⟩=some (.int .u64 0):=h3.cells.cell 2;have gf:w3.frozen? ⟨B.lb,2,none⟩=false:=h3.cells.frozen 2;have hO:Only [B.lb] w3 (w3.setCell ⟨B.lb,2,none⟩ (.int .u64 r)):=(Only.refl _ _).setCell (Or.inl (by simp)) _;have HR:Hid (q1j (w3.setCell ⟨B.lb,2,none⟩ (.int .u64 r)) N B bs r (.slice none 0 0) (.slice none 0 0) []/\Only [B.lb] w (w3.setCell ⟨B.lb,2,none⟩ (.int .u64 r))):=by have h6:=h3.ne;exact⟨⟨h3.cells.set_ 2 _,h3.fix.only hO (by simp;omega) (by simp;omega),h3.set.only hO (by simp;omega),h3.ge,h6⟩,((Only.of_below U.out [B.lb]).trans hO (fun _ h=>Or.inl h))⟩
   clear hO h3;go_wp2;refine bodyPost_end (v:= .tuple #[]) (by simp[results,Tryz.results150,go_sem]) rfl ?_;refine Or.inl ⟨⟨I.out.1,?_⟩,rfl,?_,HR.out.2⟩;·rw[<- I.out.2.1,<- I.out.2.2.1,<- I.out.2.2.2]
   ·rw[<- I.out.2.1];exact HR.out.1
end
section
variable {P:Program} {n:Nat}
def wpF (P:Program) (f0:FuncId) (c:Code) (Q:Exit->Act->World->Prop) (a:Act) (w:World):Prop:=
 ∀(b:Frame) (k:List Item) (cs:List Frame),b.roundOf=none->b.fn=f0->
  ∃e a' w',Q e a' w'/\ArrivesIn (Machine.fenced P Fence.wide) P (lone (b.atR a (.code c::k)) cs w) b k cs e a' w'
theorem x1z {f0:FuncId} {c:Code} {Q:Exit->Act->World->Prop} {a:Act} {w:World} (h:c.wpIn Fence.wide n P Q a w):wpF P f0 c Q a w:=fun b k cs I _=>h b k cs I trivial (room_wide _)
theorem q7w {fr:Frame} {cs:List Frame} {w:World} (ha:fr.about P w=none):(lone fr cs w).fenced P Fence.wide:=fenced_calm (n:=0) trivial (room_wide _) ha
theorem z5g {f0:FuncId} {x y:Code} {Q:Exit->Act->World->Prop} {a:Act} {w:World} (h:wpF P f0 x (Exit.then (fun a w=>wpF P f0 y Q a w) Q) a w):wpF P f0 (Code.seq x y) Q a w:=by
 intro b k cs h1 h2;have s0:StepsIn (Machine.fenced P Fence.wide) P (lone (b.atR a (.code (.seq x y)::k)) cs w) _:= .one (q7w rfl) stepR_seq;obtain⟨e,a1,w1,q,r⟩:=h b (.code y::k) cs h1 h2;by_cases he:e= .normal;·subst he;obtain⟨e2,a2,w2,q2,r2⟩:=q b k cs h1 h2;exact⟨e2,a2,w2,q2,.of_steps (StepsIn.trans s0 r) r2⟩
 ·have q':Q e a1 w1:=by cases e<;>first|exact absurd rfl he|exact q
  exact⟨e,a1,w1,q',.of_steps s0 (.pass (x:= .code y) rfl (fun _ _=> .inl he) r)⟩
def v7e (P:Program) (l:Nat) (R:Ending->World->Prop):Exit->Act->World->Prop
 | .normal,_,w=> ∃v w',(Instr.endRound l none).run P w= .ok v w'/\R (.returned v) w'
 | .panic chain,a,w=>a.defers=[]/\R (.panicked chain) w
 | _,_,_=>False
theorem z8g {l:Nat} {f:FuncId} {tmps:Array Value} {assign body:Code} {w:World} {R:Ending->World->Prop} (hf:∃fn,P.funcs[f]?=some fn)
  (h:assign.wpIn (Fence.wide.inRound l) n P (Exit.then (fun a1 w1=> ∃w2,(Instr.beginRound l).run P w1= .ok () w2/\body.wpIn (Fence.wide.inRound l) n P (v7e P l R) a1 w2) (fun _ _ _=>False)) { tmps:=tmps,defers:=[] } w):
  RoundIn Fence.wide n P l f tmps assign body w R:=by
 refine⟨trivial,fun c cs hr=> ?_⟩;obtain⟨b,hb⟩:∃b:Frame,b={ (default:Frame) with fn:=f,kind:= .normal,roundOf:=some l }:=⟨_,rfl⟩;have M:b.roundOf=some l:=by rw[hb]
 have h2:b.fn=f:=by rw[hb]
 have I:Frame.round l f tmps assign body .normal=b.atR { tmps:=tmps,defers:=[] } [.code assign,.beginRound,.code body]:=by rw[hb];simp[Frame.round,Frame.atR]
 have L:∀{fr:Frame} {w:World},fr.about P w=none->(lone fr (c::cs) w).fenced P (Fence.wide.inRound l):=fun ha=>fenced_calm (n:=n) trivial hr ha;obtain⟨e,a1,w1,q,r⟩:=h b [.beginRound,.code body] (c::cs) M trivial hr;rw[I];cases e with
 | normal=>
  obtain⟨w2,U,hbody⟩:=q;obtain⟨e2,a2,w3,q2,r2⟩:=hbody b [] (c::cs) M trivial hr;have r1:=StepsIn.trans r (.one (L (fr:=b.atR a1 [.beginRound,.code body]) rfl) (stepR_beginRound M U));cases e2 with
  | normal=>obtain⟨v,w4,S,hR⟩:=q2;exact⟨.returned v,w4,hR,(StepsIn.trans r1 (StepsIn.trans r2 (.one (L (fr:=b.atR a2 []) rfl) (stepR_round_end M (by rw[hb]) S))))⟩
  | panic chain=>obtain⟨hd,hR⟩:=q2;obtain⟨todo,hs⟩:=r2;have Y:({ b.atR a2 todo with mode:= .panicking chain }:Frame).leaving P w3 (.panicked chain):=⟨rfl,by simpa[Frame.atR] using hd,by obtain⟨fn,h1⟩:=hf;exact⟨fn,by simpa[Frame.atR,h2] using h1⟩⟩;exact⟨.panicked chain,w3,hR,StepsIn.trans r1 (StepsIn.trans hs (.one (fenced_leaving (n:=n) trivial hr Y) (step_leave_panicked Y)))⟩
  | ret=>exact q2.elim
  | exit id=>exact q2.elim
  | goto t=>exact q2.elim
  | outgrown=>exact q2.elim
 | ret=>exact q.elim
 | exit id=>exact q.elim
 | goto t=>exact q.elim
 | panic chain=>exact q.elim
 | outgrown=>exact q.elim
def recF (f0:FuncId) (tmps:Array Value) (ps:Array Tmp) (assign body:Code) (D:Nat) (st:LoopState):Loop:={ state:=st,pending:=none,fn:=f0,tmps:=tmps,params:=ps,assign:=assign,body:=body,defers:=D }
structure q5r (l D:Nat) (r:Loop) (W:World):Prop where
 lp:W.heap[l]?=some (.loop r)
 df:W.heap[D]?=some (.deferred (some []))
theorem v8t {l D:Nat} {f0:FuncId} {tmps:Array Value} {ps:Array Tmp} {assign body:Code} {args:Array Value} {W:World} {a1:Act} {J:World->Prop} {Pp:List PanicEntry->World->Prop} (hf:∃fn,P.funcs[f0]?=some fn) (I:l≠D) (hl:q5r l D (recF f0 tmps ps assign body D .ready) W) (L:args.size=ps.size)
  (hassign:∀K:Act->World->Prop,K a1 W->assign.wpIn (Fence.wide.inRound l) n P (Exit.then K (fun _ _ _=>False)) { tmps:=(ps.zip args).foldl (fun t (p,v)=>t.setIfInBounds p v) tmps,defers:=[] } W)
  (hbody:∀W',W'=W.putObj l (.loop (recF f0 tmps ps assign body D .busy))->q5r l D (recF f0 tmps ps assign body D .busy) W'->body.wpIn (Fence.wide.inRound l) n P (fun e a W3=>match e with | .normal=>q5r l D (recF f0 tmps ps assign body D .busy) W3/\J (W3.putObj l (.loop (recF f0 tmps ps assign body D .ready))) | .panic chain=>a.defers=[]/\Pp chain W3|_=>False) a1 W'):
  YieldAt Fence.wide n P l args W fun e W'=>(e= .returned (.bool true)/\q5r l D (recF f0 tmps ps assign body D .ready) W'/\J W')\/ ∃chain,e= .panicked chain/\Pp chain W':=by
 have hy:=run_yield (P:=P) (args:=args) hl.lp L;refine⟨_,_,_,_,hy,z8g hf (hassign _ ⟨_,run_beginRound hl.lp rfl,?_⟩)⟩;have hlt:=(AA.1 hl.lp).1;have hb:=hbody _ rfl ⟨World.putObj_heap_same hlt,(World.putObj_heap_other I.symm).trans hl.df⟩;refine wpIn_mono hb ?_;intro e a W3 h;cases e with
 | normal=>obtain⟨h1,h2⟩:=h;refine⟨_,_,run_endRound (P:=P) none h1.lp,Or.inl ⟨rfl,⟨World.putObj_heap_same (AA.1 h1.lp).1,(World.putObj_heap_other I.symm).trans h1.df⟩,h2⟩⟩
 | panic chain=>exact⟨h.1,Or.inr ⟨chain,rfl,h.2⟩⟩
 | ret=>exact h.elim
 | exit id=>exact h.elim
 | goto t=>exact h.elim
 | outgrown=>exact h.elim
theorem x7d {f0:FuncId} {g:Operand} {ps:Array Tmp} {assign body:Code} {Q:Exit->Act->World->Prop} {a:Act} {w:World} {gf:Nat} {lb:Array Value} (hg:a.eval g= .func (.func gf) #[] lb) (eg:∀args w,(callFunc gf args).run P w= .ok (.enter gf args) w)
  (I:∀W1,W1=(w.alloc (.deferred (some []))).alloc (.loop (recF f0 a.tmps ps assign body w.heap.size .ready))->q5r (w.heap.size+1) w.heap.size (recF f0 a.tmps ps assign body w.heap.size .ready) W1->
   CallsIn Fence.wide n P gf (#[.func (.yield (w.heap.size+1)) #[] #[]]++lb) W1 fun e W2=>
    (∃v,e= .returned v/\q5r (w.heap.size+1) w.heap.size (recF f0 a.tmps ps assign body w.heap.size .ready) W2/\Q .normal { a with defers:={ target:= .collected w.heap.size,args:= #[] }::a.defers } (W2.putObj (w.heap.size+1) (.loop (recF f0 a.tmps ps assign body w.heap.size .exhausted))))\/
    ∃chain,e= .panicked chain/\Q (.panic chain) { a with defers:={ target:= .collected w.heap.size,args:= #[] }::a.defers } W2):
  wpF P f0 (Code.rangeFunc g ps assign body) Q a w:=by
 intro b k cs h3 h4
 have h1:q5r (w.heap.size+1) w.heap.size (recF f0 a.tmps ps assign body w.heap.size .ready) ((w.alloc (.deferred (some []))).alloc (.loop (recF f0 a.tmps ps assign body w.heap.size .ready))):=by
  refine⟨?_,?_⟩
  ·have:=World.alloc_heap_new (w.alloc (.deferred (some []))) (.loop (recF f0 a.tmps ps assign body w.heap.size .ready))
   rwa[World.size_alloc] at this
  ·exact(Below.heap_alloc _ _ _ (by simp)).trans (World.alloc_heap_new w _)
 have he:(Instr.enterLoop b.fn a.tmps ps assign body b.roundOf).run P w= .ok (w.heap.size+1,[{ target:= .collected w.heap.size,args:= #[] }]) ((w.alloc (.deferred (some []))).alloc (.loop (recF f0 a.tmps ps assign body w.heap.size .ready))):=by rw[h3,h4];exact run_enterLoop_outer _ _ _ _ _
 have O:(resolve a.eval (rangeCall g (w.heap.size+1)) 0).run P ((w.alloc (.deferred (some []))).alloc (.loop (recF f0 a.tmps ps assign body w.heap.size .ready)))= .ok { target:= .fn (.func gf) lb,args:= #[.func (.yield (w.heap.size+1)) #[] #[]] } ((w.alloc (.deferred (some []))).alloc (.loop (recF f0 a.tmps ps assign body w.heap.size .ready))):=by simp only[resolve,hg];simp[go_sem]
 have M:(invoke (.fn (.func gf) lb) #[.func (.yield (w.heap.size+1)) #[] #[]]).run P ((w.alloc (.deferred (some []))).alloc (.loop (recF f0 a.tmps ps assign body w.heap.size .ready)))= .ok (.enter gf (#[.func (.yield (w.heap.size+1)) #[] #[]]++lb)) ((w.alloc (.deferred (some []))).alloc (.loop (recF f0 a.tmps ps assign body w.heap.size .ready))):=by simp[invoke,go_sem,eg]
 have U:=stepR_rangeFunc (P:=P) (b:=b) (a:=a) (k:=k) (cs:=cs) (w:=w) he O M;have h0:(lone (b.atR a (.code (.rangeFunc g ps assign body)::k)) cs w).fenced P Fence.wide:=fenced_lone (.inl trivial) (fun _ _=>trivial) (room_wide _);obtain⟨_,h2⟩:=I _ rfl h1;obtain⟨e,w3,fr,hR,hs,h5,L⟩:=h2 (b.atR { a with defers:=[{ target:= .collected w.heap.size,args:= #[] }]++a.defers } (.inRangeFunc (w.heap.size+1)::k)::cs) (room_wide _);rcases hR with⟨v,rfl,Y,hq⟩|⟨chain,rfl,hq⟩
 ·have S:=run_endLoop (P:=P) Y.lp (by simp[recF]);have s1:StepsIn (Machine.fenced P Fence.wide) P (lone (b.atR a (.code (.rangeFunc g ps assign body)::k)) cs w) (lone (b.atR { a with defers:=[{ target:= .collected w.heap.size,args:= #[] }]++a.defers } k) cs (w3.putObj (w.heap.size+1) (.loop (recF f0 a.tmps ps assign body w.heap.size .exhausted)))):=by refine .head h0 U (StepsIn.trans hs (.head (fenced_leaving (n:=0) trivial (room_wide _) L) ?_ (.one (q7w (fr:=b.atR { a with defers:=[{ target:= .collected w.heap.size,args:= #[] }]++a.defers } (.endRangeFunc (w.heap.size+1)::k)) rfl) (stepR_endRangeFunc S))));rw[<- finish_atR_inRangeFunc (w.heap.size+1) v];exact step_leave_returned L
  exact⟨.normal,_,_,hq,s1⟩
 ·refine⟨.panic chain,_,w3,hq,.inRangeFunc (w.heap.size+1)::k,.head h0 U (StepsIn.trans hs (.one (fenced_leaving (n:=0) trivial (room_wide _) L) ?_))⟩;rw[<- Frame.raise_atR];exact step_leave_panicked L
theorem z3c {f:FuncId} {fn:Func} {c:Code} {args:Array Value} {w:World} {R:Ending->World->Prop} (hf:P.funcs[f]?=some fn) (hb:fn.body=some c)
  (h:wpF P f c (bodyPostM Fence.wide n P fn R) { tmps:=args++Array.replicate (fn.ntmps-args.size) undef,defers:=[] } w):CallsIn Fence.wide n P f args w R:=by
 refine⟨trivial,fun cs hr=> ?_⟩;obtain⟨b,M⟩:∃b:Frame,b={ (default:Frame) with fn:=f,kind:= .normal,roundOf:=none }:=⟨_,rfl⟩;have S:b.fn=f:=by rw[M]
 have U:b.roundOf=none:=by rw[M]
 have h3:b.kind= .normal:=by rw[M]
 have h6:Frame.enter P f args .normal=b.atR { tmps:=args++Array.replicate (fn.ntmps-args.size) undef,defers:=[] } [.code c]:=by rw[M];simp[Frame.enter,Frame.atR,hf,hb]
 obtain⟨e,a',w',hq,r⟩:=h b [] cs U S;rw[<- h6] at r;have fin:∀(u:FrameMode) (todo:List Item),LeavesInM Fence.wide n P fn a'.tmps R a'.defers u w'-> ∃e L I,R e L/\ComesIn (Machine.fenced P Fence.wide) P (lone { b.atR a' todo with mode:=u } cs w') (lone I cs L) e/\I.fn=f/\I.leaving P L e:=fun u todo hl=>by obtain⟨e',L,I,hR,hs,h4,h5⟩:=leaves_stepsInM a'.defers u w' { b.atR a' todo with mode:=u } cs rfl rfl rfl (by simpa[Frame.atR,S] using hf) (by simpa[Frame.atR] using h3) trivial hr hl;exact⟨e',L,I,hR,hs,by rw[h4];simp[Frame.atR,S],h5⟩
 cases e with
 | normal=>obtain⟨e',L,I,hR,hs,h1,h2⟩:=fin .returning [] hq;exact⟨e',L,I,hR,ComesIn.of_steps (StepsIn.trans r (.one (q7w (fr:=b.atR a' []) rfl) (stepR_end U))) hs,h1,h2⟩
 | ret=>obtain⟨todo,Y⟩:=r.1 U;obtain⟨e',L,I,hR,hs,h1,h2⟩:=fin .returning todo hq;exact⟨e',L,I,hR,ComesIn.of_steps Y hs,h1,h2⟩
 | panic chain=>obtain⟨todo,Y⟩:=r;obtain⟨e',L,I,hR,hs,h1,h2⟩:=fin (.panicking chain) todo hq;exact⟨e',L,I,hR,ComesIn.of_steps Y hs,h1,h2⟩
 | exit id=>exact hq.elim
 | goto l=>exact hq.elim
 | outgrown=>exact⟨.outgrown,w',b,hq,r.resolve_left (by rw[h3];simp),S,trivial⟩
end
section
attribute [local go_sem ↓ high] q0s q0f q0d z8r
attribute [local go_sem] q1x q1p q1v
theorem v4p:∀(xs ys:List Int),xs.Nodup->(∀x∈xs,x∈ys)->xs.length<=ys.length
 | [],_,_,_=>Af _
 | x::xs,ys,hn,hs=>by rw[Br] at hn;have hx:=hs x (Ae ..);have h:=v4p xs (ys.erase x) hn.2 (fun y hy=>by exact(List.mem_erase_of_ne (fun e=>hn.1 (by rw[<- e];exact hy))).2 (hs y (AW _ hy)));rw[List.length_erase_of_mem hx] at h;have:=List.length_pos_of_mem hx;simp;omega
def z6h (W:World) (mb:Nat):Nat:=match W.heap[mb]? with
 | some (.map es _)=>es.size
 | _=>0
theorem q7g.len {W:World} {mb:Nat} {R:List Int} (h:q7g W mb R):z6h W mb=R.length:=by obtain⟨es,cl,h1,h2,_⟩:=h;unfold z6h;rw[h1];have:=congrArg List.length h2;simpa using this
theorem q6c {bs:List Int} {a:Int} {n:NodeA} (h:q1y bs a=some n):clsI bs a=3/\n=q5t (q2p bs a):=by
 unfold q1y at h;split at h;·rename_i hh;injection h with h;exact⟨hh.1,h.symm⟩
 ·cases h
theorem z1s {bs:List Int} {L a0:Int} {pre:List (Int×NodeA)} {I:Option Int} {a:Int} (h:q1e (q1y bs) L a0 pre I a) (hs:0<q0w bs.length) (hp:∀x∈pre,0<=x.1):pre.length<=bs.length:=by have hl:=v4p (pre.map (·.1)) ((List.range bs.length).map (fun k:Nat=>(k:Int))) h.nodup (fun x hx=>by obtain⟨y,hy,rfl⟩:=Aj.1 hx;obtain⟨_,hn,_⟩:=h.at' y hy;obtain⟨k,hk,M,_⟩:=z2q (q6c hn).1 (hp y hy) hs;rw[Aj];exact⟨8*k,Av.2 (by omega),by omega⟩);simpa using hl
def q4u (N1 l B6:Nat) (A A':World):Prop:=A.heap.size<=A'.heap.size/\ ∀k o,A.heap[k]?=some o->k≠B6->k≠l->(k<N1\/ ∀cs fr,o≠ .cells cs 196 fr)->A'.heap[k]?=some o
theorem q4u.cell {N1 l B6:Nat} {A A':World} (h:q4u N1 l B6 A A') {p:Addr} (hp:p.block<A.heap.size) (h1:p.block≠B6) (h2:p.block≠l) (h3:p.block<N1):A'.cell? p=A.cell? p:=by obtain⟨o,ho⟩:∃o,A.heap[p.block]?=some o:=⟨_,AS hp⟩;exact World.cell?_of_block (w:=A) ((h.2 _ _ ho h1 h2 (Or.inl h3)).trans ho.symm)
theorem q4u.blk {N1 l B6:Nat} {A A':World} (h:q4u N1 l B6 A A') {b:Nat} {t:TypeId} {cs:Array Value} (hb:Blk A b t cs) (h1:b≠B6) (h2:b≠l) (h3:b<N1\/t≠196):Blk A' b t cs:=h.2 b _ hb h1 h2 (h3.imp id fun I L fr e=>I (by injection e))
theorem q4u.trans {N1 l B6:Nat} {A A' I:World} (h:q4u N1 l B6 A A') (k:q4u N1 l B6 A' I):q4u N1 l B6 A I:=⟨AH h.1 k.1,fun x o hx h1 h2 h3=>k.2 x o (h.2 x o hx h1 h2 h3) h1 h2 h3⟩
theorem q4u.of_below {N1 l B6:Nat} {A A':World} (h:Below A.heap.size A A'):q4u N1 l B6 A A':=⟨h.size,fun k o hk _ _ _=>(h.block k (AA.1 hk).1).trans hk⟩
theorem q4u.putL (N1 l B6:Nat) (A:World) (o':Obj):q4u N1 l B6 A (A.putObj l o'):=⟨by simp[World.putObj],fun k o hk _ h2 _=>(World.putObj_heap_other h2).trans hk⟩
theorem q1j.keepL {w w':World} {N N1 l B6:Nat} {B:LkP} {bs:List Int} {root:Int} {lv pr:Value} {R:List Int} (h:q1j w N B bs root lv pr R) (hk:q4u N1 l B6 w w') (h1:B.lb≠B6/\B.lb≠l/\B.lb<N1) (h2:B.wb≠B6/\B.wb≠l/\B.wb<N1) (h3:B.hb≠B6/\B.hb≠l/\B.hb<N1) (h4:B.mb≠B6/\B.mb≠l/\B.mb<N1):q1j w' N B bs root lv pr R:=by
 obtain⟨es,cl,q1,q2⟩:=h.set
 exact⟨hk.blk h.cells h1.1 h1.2.1 (Or.inl h1.2.2),⟨⟨AL h.fix.words.1 hk.1,fun i x hi=>(hk.cell (p:=⟨B.wb,0+i,none⟩) h.fix.words.1 h2.1 h2.2.1 h2.2.2).trans (h.fix.words.2 i x hi)⟩,h.fix.wc,AL h.fix.hlt hk.1,
  fun i hi=>⟨(hk.cell (p:=⟨B.hb,i*2,none⟩) h.fix.hlt h3.1 h3.2.1 h3.2.2).trans (h.fix.heads i hi).1,(hk.cell (p:=⟨B.hb,i*2+1,none⟩) h.fix.hlt h3.1 h3.2.1 h3.2.2).trans (h.fix.heads i hi).2⟩,h.fix.ok,h.fix.some',h.fix.byte⟩,
  ⟨es,cl,hk.2 _ _ q1 h4.1 h4.2.1 (Or.inl h4.2.2),q2⟩,h.ge,h.ne⟩
def v6f (n l N1 B6:Nat) (bs:List Int) (lev a0:Int) (J:List (Int×NodeA)->World->Prop) (Pp:World->Prop):Prop:=
 ∀pre prev (x:Int×NodeA) W1,q1e (q1y bs) lev a0 pre prev x.1->x.1≠0->0<=x.1->q1y bs x.1=some x.2->J pre W1->
  YieldAt Fence.wide n Tryz.prog l #[.int .u64 x.1,.agg (q0x x.2)] W1 fun e W'=>
   (e= .returned (.bool true)/\x.2.lv=lev/\(lev=0->x.2.fi=x.1)/\x3p prev x.2.low/\J (pre++[x]) W'/\q4u N1 l B6 W1 W')\/
   (e= .panicked errC/\(∀r,¬q0a (q1y bs) lev none a0 r)/\Pp W')
theorem x5k (n l N N1 B6:Nat) (B:LkP) (bs:List Int) (root:Int) (lv pr:Value) (R0:List Int) (L a0:Int) (Ba Bl:Nat) (J:List (Int×NodeA)->World->Prop) (Pp:World->Prop) (W:World) (z7:0<=a0/\a0<=18446744073709551615)
  (hl:B.lb≠B6/\B.lb≠l/\B.lb<N1/\B.wb≠B6/\B.wb≠l/\B.wb<N1/\B.hb≠B6/\B.hb≠l/\B.hb<N1/\B.mb≠B6/\B.mb≠l/\B.mb<N1)
  (ki:Ba≠B6/\Ba≠l/\Ba<N1/\Bl≠B6/\Bl≠l/\Bl<N1/\Ba≠Bl/\Ba≠B.lb/\Ba≠B.wb/\Ba≠B.hb/\Ba≠B.mb/\Bl≠B.mb)
  (k7:N1<=W.heap.size) (kb:l<W.heap.size/\B6<W.heap.size)
  (kp:∀a∈R0,∀nd,q1y bs a=some nd->nd.lv≠L)
  (hJ:∀pre A A',J pre A->Only [B.mb,Ba] A A'->J pre A')
  (hP:∀pre A A',J pre A->Only [B.mb,Ba] A A'->Pp A')
  (hY:v6f (n-1) l N1 B6 bs L a0 J Pp)
  (h0:J [] W) (hL:q1j W N B bs root lv pr R0) (kk:Blk W Ba 51 #[.int .u64 a0]) (ko:W.cell? ⟨Bl,0,none⟩=some (.pointer (some ⟨B.lb,0,none⟩))):
  CallsIn Fence.wide n Tryz.prog 241 #[.func (.yield l) #[] #[],.pointer (some ⟨Ba,0,none⟩),.pointer (some ⟨Bl,0,none⟩)] W fun e W'=>
   ((∃v,e= .returned v)/\ ∃row,q0a (q1y bs) L none a0 row/\J row W'/\q1j W' N B bs root lv pr (R0++row.map (·.1)))\/
   (e= .panicked errC/\(∀r,¬q0a (q1y bs) L none a0 r)/\Pp W'):=by
 have h7:=kk.lt;have S:=World.block_lt_of_cell? W _ ko;refine callsIn_of_wp Tryz.func241 rfl trivial ?_ rfl;simp only[Tryz.ntmps241,List.size_toArray,List.length_cons,List.length_nil,Nat.reduceAdd,Nat.reduceSub,Array.replicate_succ,Array.replicate_zero,List.push_toArray,List.append_toArray,List.nil_append,List.cons_append];have I:=hid (⟨hl,ki,k7,kb,h7,S⟩:_/\_/\_/\_/\_/\_);have kz:=hid kp;have HJ:=hid hJ;have HP:=hid hP;have HY:=hid hY;have ke:=hL.fix.some';have z6:=hid ke;have zb:=hid hL.fix.byte;have HL:=hid hL;clear hl ki k7 kb kp hJ hP hY ke hL h7 S;gi_wp2_with fail;gi_loopw [4] (fun s4 wr=> ∃(pre:List (Int×NodeA)) (U:Option Int) (a:Int),Hid (q1e (q1y bs) L a0 pre U a/\(∀x∈pre,0<=x.1)/\0<=a/\a<=18446744073709551615)/\Hid (J pre wr)/\Hid (q1j wr N B bs root lv pr (R0++pre.map (·.1)))/\Hid (Blk wr Ba 51 #[.int .u64 a])/\wr.cell? ⟨Bl,0,none⟩=some (.pointer (some ⟨B.lb,0,none⟩))/\Hid (W.heap.size<=wr.heap.size)) (fun _ wr=>(R0.length+bs.length+1)-z6h wr B.mb);case atStart=>exact⟨[],none,a0,⟨q1e.start _ _ _,(fun x hx=>by cases hx),z7⟩,h0,hid (by simpa using HL.out),kk,ko,AG _⟩
 case round=>
  obtain⟨pre,U,a,hC,hg,hi,k8,cl,k0⟩:=hrel;have ca:wr.cell? ⟨Ba,0,none⟩=some (.int .u64 a):=k8.out.cell 0;by_cases hz:a=0
  ·have e0:(a !=0)=false:=by simp[hz]
   subst hz;have HF:Hid (q0a (q1y bs) L none a0 pre):=hC.out.1.done;gi_wp2;go_end0;exact Or.inl ⟨⟨_,rfl⟩,pre,HF.out,hg.out,hi.out⟩
  ·have e0:(a !=0)=true:=by simp[hz]
   have hj:=hid hz;clear hz;by_cases hm:a∈R0++pre.map (·.1)
   ·have TK:=hid (x1d N B bs root lv pr _ a hm wr hi.out)
    have k1:Hid (∀r,¬q0a (q1y bs) L none a0 r):=by
     rcases An.1 hm with h1|h1;·refine hC.out.1.no hj.out fun nd O hl _ _=>kz.out a h1 nd O hl
     ·exact hC.out.1.dup h1
    clear hm;gi_wp2_with fail;refine⟨trivial,(fun h=>by simp[Fence.wide] at h),(callsIn_wide.2 TK.out).mono ?_⟩;rintro e w1 ⟨rfl,z4⟩;refine⟨rfl,Or.inr ⟨rfl,k1.out,HP.out pre _ _ hg.out (Only.of_below z4 _)⟩⟩
   ·have TK:=hid (z6e N B bs root lv pr _ a hm wr hi.out);have HM:=hid hm;clear hm;gi_wp2_with fail;refine⟨trivial,(fun h=>by simp[Fence.wide] at h),(callsIn_wide.2 TK.out).mono ?_⟩;rintro e w1 ⟨rfl,ha,h8⟩;have d1:w1.cell? ⟨Ba,0,none⟩=some (.int .u64 a):=(h8.cell (p:=⟨Ba,0,none⟩) (by have:=I.out;have:=k0.out;dsimp only;omega) (by have:=I.out;simp;omega)).trans ca;have d2:w1.cell? ⟨Bl,0,none⟩=some (.pointer (some ⟨B.lb,0,none⟩)):=(h8.cell (p:=⟨Bl,0,none⟩) (by have:=I.out;have:=k0.out;dsimp only;omega) (by have:=I.out;simp;omega)).trans cl;have hf:=hid h8;cases O:q1y bs a with
    | none=>
     have ND:=hid (x1q N B bs root lv pr _ a hC.out.2.2 O w1 ha);have k1:Hid (∀r,¬q0a (q1y bs) L none a0 r):=hC.out.1.no hj.out fun nd he _ _ _=>by rw[O] at he;cases he
     clear O h8 ha ca cl;gi_wp2_with fail;refine⟨trivial,(fun h=>by simp[Fence.wide] at h),(callsIn_wide.2 ND.out).mono ?_⟩;rintro e w2 ⟨rfl,h6⟩;refine⟨rfl,Or.inr ⟨rfl,k1.out,HP.out pre _ _ hg.out ((hf.out.mono (by simp)).trans (Only.of_below h6 []) (fun _ h=>by cases h))⟩⟩
    | some nn=>
     have ND:=hid (z6t N B bs root lv pr _ a hC.out.2.2 nn O w1 ha);have ht:=hid O;have ky:=hid ha;clear O h8 ha ca cl;gi_wp2_with fail;refine⟨trivial,(fun h=>by simp[Fence.wide] at h),(callsIn_wide.2 ND.out).mono ?_⟩;rintro e w2 ⟨rfl,h6⟩;have kq:=hid h6;obtain⟨W3,kr,k3,kh⟩:=q3e w2 nn;have h4:=hid (bx h6 kh);have kt:=q2j k3;have e1:W3.cell? ⟨Ba,0,none⟩=some (.int .u64 a):=(h4.out.cell (p:=⟨Ba,0,none⟩) (World.block_lt_of_cell? w1 _ d1)).trans d1;have e2:W3.cell? ⟨Bl,0,none⟩=some (.pointer (some ⟨B.lb,0,none⟩)):=(h4.out.cell (p:=⟨Bl,0,none⟩) (World.block_lt_of_cell? w1 _ d2)).trans d2;have hr:Only [B.mb,Ba] wr W3:=((hf.out.mono (by simp)).trans (Only.of_below h4.out []) (fun _ h=>by cases h));obtain⟨fn,tmps,assign,body,hy,hR⟩:=HY.out pre U (a,nn) W3 hC.out.1 hj.out hC.out.2.2.1 ht.out (HJ.out pre _ _ hg.out hr);have HR:=hid hR;have kj:=hid k3;have zc:=hid hr;clear hR h6 kh hr k3 d1 d2;have h9:Blk W3 Ba 51 #[.int .u64 a]:=(hf.out.blk k8.out (by have:=I.out;simp;omega)).bel h4.out;have k5:=hid h9;have z3:=hid (ky.out.bel h4.out);have k9:W.heap.size<=w2.heap.size:=by have:=k0.out;have:=hf.out.size;have:=kq.out.size;omega
     have ho:=hid k9;clear h9 k9;gi_wp2_with fail;refine⟨fun h=>by simp[Fence.wide] at h,HR.out.mono ?_⟩;rintro e W4 (⟨rfl,q1,q2,q3,kc,h2⟩|⟨rfl,za,z0⟩)
     ·have k4:Blk W4 w2.heap.size 55 (q0x nn):=h2.blk kj.out (by have:=I.out;have:=ho.out;omega) (by have:=I.out;have:=ho.out;omega) (Or.inr (by decide));have g2:W4.cell? ⟨w2.heap.size,2,none⟩=some (.int .u64 nn.nx):=k4.cell 2;have M:Blk W4 Ba 51 #[.int .u64 a]:=h2.blk k5.out (by have:=I.out;omega) (by have:=I.out;omega) (Or.inl (by have:=I.out;omega));have z1:W4.cell? ⟨Ba,0,none⟩=some (.int .u64 a):=M.cell 0;have z2:W4.frozen? ⟨Ba,0,none⟩=false:=M.frozen 0;have kf:Only [B.mb,Ba] W4 (W4.setCell ⟨Ba,0,none⟩ (.int .u64 nn.nx)):=(Only.refl _ _).setCell (Or.inl (by simp)) _;have hh:Only [Ba] W4 (W4.setCell ⟨Ba,0,none⟩ (.int .u64 nn.nx)):=(Only.refl _ _).setCell (Or.inl (by simp)) _;have kg:=z3.out.keepL h2 (by have:=I.out;omega) (by have:=I.out;omega) (by have:=I.out;omega) (by have:=I.out;omega);have hq:=kg.only hh (by have:=I.out;simp;omega) (by have:=I.out;simp;omega) (by have:=I.out;simp;omega) (by have:=I.out;simp;omega);have Y:W4.cell? ⟨Bl,0,none⟩=some (.pointer (some ⟨B.lb,0,none⟩)):=(h2.cell (p:=⟨Bl,0,none⟩) (World.block_lt_of_cell? W3 _ e2) (by have:=I.out;dsimp only;omega) (by have:=I.out;dsimp only;omega) (by have:=I.out;dsimp only;omega)).trans e2;have hp:(W4.setCell ⟨Ba,0,none⟩ (.int .u64 nn.nx)).cell? ⟨Bl,0,none⟩=some (.pointer (some ⟨B.lb,0,none⟩)):=(hh.cell (p:=⟨Bl,0,none⟩) (World.block_lt_of_cell? W4 _ Y) (by have:=I.out;simp;omega)).trans Y;have km:=hC.out.1.next hj.out ht.out q1 q2 q3
      have hu:=q4b zb.out a 2;have hk:nn.nx=q2p bs a 2:=by rw[(q6c ht.out).2];rfl
      have h5:∀x∈pre++[(a,nn)],0<=x.1:=by
       intro x hx;rcases An.1 hx with h|h;·exact hC.out.2.1 x h
       ·rw[AF.1 h];exact hC.out.2.2.1
      have hs:=hid (⟨km,h5,by rw[hk];exact hu.1,by rw[hk];exact hu.2⟩:q1e (q1y bs) L a0 (pre++[(a,nn)]) (some nn.low) nn.nx/\(∀x∈pre++[(a,nn)],0<=x.1)/\0<=nn.nx/\nn.nx<=18446744073709551615);have z9:=hid (HJ.out _ _ _ kc kf);have kd:R0++pre.map (·.1)++[a]=R0++(pre++[(a,nn)]).map (·.1):=by simp
      rw[kd] at hq;have kn:=hid hq;have kx:=hid (M.set_ 0 (.int .u64 nn.nx));have z5:=hid (show W.heap.size<=(W4.setCell ⟨Ba,0,none⟩ (.int .u64 nn.nx)).heap.size by have:=h2.1;have:=kj.out.lt;have:=ho.out;have:=hh.size;omega);have h3:=z1s hs.out.1 z6.out hs.out.2.1;have z8:=hid (show(R0.length+bs.length+1)-z6h (W4.setCell ⟨Ba,0,none⟩ (.int .u64 nn.nx)) B.mb< (R0.length+bs.length+1)-z6h wr B.mb by rw[kn.out.set.len,hi.out.set.len];simp at h3 ⊢;omega);clear h3 kd hu hk h5 km kg hq kf hh M k4 Y h2 kc q1 q2 q3 kt hy kr e1 e2;gi_wp2;go_roundw;case rel=>exact⟨pre++[(a,nn)],some nn.low,nn.nx,hs,z9,kn,kx,hp,z5⟩
      case measure=>exact z8.out
     ·exact⟨rfl,Or.inr ⟨rfl,za,z0⟩⟩
end
section
attribute [local go_sem ↓ high] q0s q0f q0d q0v
attribute [local go_sem] q1x q1p q1v Oper.semAt_some q0h
def q3h (n:NodeA) (a high:Int) (has:Bool):List Value:=(q0x n).toList++[.int .u64 a,.int .u64 high,.bool has]
theorem v1s (lb:Nat) (a:Int) (w:World):Calls Tryz.prog 205 #[.pointer (some ⟨lb,0,none⟩),.int .u64 a] w fun e w'=>e= .returned (.func (.func 241) #[] #[.pointer (some ⟨w.heap.size+1,0,none⟩),.pointer (some ⟨w.heap.size,0,none⟩)])/\w'=(w.alloc (.cells #[.pointer (some ⟨lb,0,none⟩)] 136)).alloc (.cells #[.int .u64 a] 51):=by go_enter Tryz.func205,Tryz.ntmps205;go_wp2;go_ret;exact⟨rfl,rfl⟩
def blkQ (Q:Exit->Act->World->Prop):Exit->Act->World->Prop
 | .normal,a,w=>Q .normal a w
 | .panic ch,a,w=>Q (.panic ch) a w
 | _,_,_=>False
theorem x9y {P:Program} {f0:FuncId} {id:Nat} {c:Code} {Q:Exit->Act->World->Prop} {a:Act} {w:World} (h:wpF P f0 c (blkQ Q) a w):wpF P f0 (Code.block id c) Q a w:=by
 intro b k cs h1 h2;have s0:StepsIn (Machine.fenced P Fence.wide) P (lone (b.atR a (.code (.block id c)::k)) cs w) _:= .one (q7w rfl) stepR_block;obtain⟨e,a1,w1,q,r⟩:=h b (.inBlock id::k) cs h1 h2;cases e with
 | normal=>exact⟨.normal,a1,w1,q,StepsIn.trans s0 (StepsIn.trans r (.one (q7w (fr:=b.atR a1 (.inBlock id::k)) rfl) stepR_inBlock))⟩
 | panic ch=>exact⟨.panic ch,a1,w1,q,.of_steps s0 r⟩
 | ret=>exact q.elim
 | exit id=>exact q.elim
 | goto t=>exact q.elim
 | outgrown=>exact q.elim
theorem x4p {P:Program} {n:Nat} {l D:Nat} {f0:FuncId} {tmps:Array Value} {ps:Array Tmp} {assign body:Code} {args:Array Value} {W W2:World} {a1:Act} {J:World->Prop} {Pp:List PanicEntry->World->Prop} (hf:∃fn,P.funcs[f0]?=some fn) (L:l≠D) (hl:q5r l D (recF f0 tmps ps assign body D .ready) W) (I:q5r l D (recF f0 tmps ps assign body D .ready) W2) (M:args.size=ps.size)
  (hassign:∀K:Act->World->Prop,K a1 W2->assign.wpIn (Fence.wide.inRound l) n P (Exit.then K (fun _ _ _=>False)) { tmps:=(ps.zip args).foldl (fun t (p,v)=>t.setIfInBounds p v) tmps,defers:=[] } W)
  (hbody:∀W',W'=W2.putObj l (.loop (recF f0 tmps ps assign body D .busy))->q5r l D (recF f0 tmps ps assign body D .busy) W'->body.wpIn (Fence.wide.inRound l) n P (fun e a W3=>match e with | .normal=>q5r l D (recF f0 tmps ps assign body D .busy) W3/\J (W3.putObj l (.loop (recF f0 tmps ps assign body D .ready))) | .panic chain=>a.defers=[]/\Pp chain W3|_=>False) a1 W'):
  YieldAt Fence.wide n P l args W fun e W'=>(e= .returned (.bool true)/\q5r l D (recF f0 tmps ps assign body D .ready) W'/\J W')\/ ∃chain,e= .panicked chain/\Pp chain W':=by
 have hy:=run_yield (P:=P) (args:=args) hl.lp M;refine⟨_,_,_,_,hy,z8g hf (hassign _ ⟨_,run_beginRound I.lp rfl,?_⟩)⟩;have hlt:=(AA.1 I.lp).1;have hb:=hbody _ rfl ⟨World.putObj_heap_same hlt,(World.putObj_heap_other L.symm).trans I.df⟩;refine wpIn_mono hb ?_;intro e a W3 h;cases e with
 | normal=>obtain⟨h1,h2⟩:=h;refine⟨_,_,run_endRound (P:=P) none h1.lp,Or.inl ⟨rfl,⟨World.putObj_heap_same (AA.1 h1.lp).1,(World.putObj_heap_other L.symm).trans h1.df⟩,h2⟩⟩
 | panic chain=>exact⟨h.1,Or.inr ⟨chain,rfl,h.2⟩⟩
 | ret=>exact h.elim
 | exit id=>exact h.elim
 | goto t=>exact h.elim
 | outgrown=>exact h.elim
def q6y (row:List (Int×NodeA)) (i:Nat):List Value:=q3h ((row[i]?).map (·.2) |>.getD q2w) ((row[i]?).map (·.1) |>.getD 0) (q2a row i) (hasI row i)
def q4a (row:List (Int×NodeA)):List Value:=(List.range row.length).flatMap (q6y row)
structure LvJ (w0:World) (N mb N1 B5 B6 l D:Nat) (r:Loop) (lev:Int) (pre:List (Int×NodeA)) (W:World):Prop where
 loop:q5r l D r W
 b5:Blk W B5 3 #[.int .i64 lev]
 row:∃rv,Blk W B6 148 #[rv]/\W.ownsRow N1 196 24 rv pre.length (q4a pre)
 only':Only [mb] w0 W
 base:N<=w0.heap.size/\N<=mb
theorem LvJ.bel {w0:World} {N mb N1 B5 B6 l D:Nat} {r:Loop} {I:Int} {pre:List (Int×NodeA)} {W:World} (h:LvJ w0 N mb N1 B5 B6 l D r I pre W):Below N w0 W:=h.only'.below (fun x hx=>by rw[AF.1 hx];exact h.base.2) h.base.1
theorem LvJ.only {w0:World} {N mb N1 B5 B6 l D:Nat} {r:Loop} {I:Int} {pre:List (Int×NodeA)} {W W':World} {f:List Nat} (h:LvJ w0 N mb N1 B5 B6 l D r I pre W) (ho:Only f W W') (hf:∀k∈f,(k=mb\/w0.heap.size<=k)/\k<N1/\k≠B5/\k≠B6) (hl:N1<=l/\N1<=D):LvJ w0 N mb N1 B5 B6 l D r I pre W':=by
 obtain⟨rv,h1,h2⟩:=h.row;have hn:∀k,N1<=k->k∉f:=fun k hk hm=>by have:=hf k hm;omega
 refine⟨⟨(ho.block l (AA.1 h.loop.lp).1 (hn l hl.1)).trans h.loop.lp,(ho.block D (AA.1 h.loop.df).1 (hn D hl.2)).trans h.loop.df⟩,ho.blk h.b5 (fun hm=>(hf _ hm).2.2.1 rfl),⟨rv,ho.blk h1 (fun hm=>(hf _ hm).2.2.2 rfl),ho.own h2 (fun k hk=>hn k ?_)⟩,h.only'.trans ho (fun x hx=>(hf x hx).1.imp (fun e=>by simp[e]) id),h.base⟩;rcases h2.2 with⟨e1,_⟩|⟨g,cap,L,e1,e2,_⟩;·rw[e1] at hk;cases hk
 ·rw[e1] at hk;have:g=k:=by simpa[Value.ownBlock] using hk
  omega
def q3r (bs:List Int) (lev:Int) (prev:Option Int) (x:Int×NodeA):Prop:=x.2.lv=lev/\(lev=0->x.2.fi=x.1)/\x3p prev x.2.low
def RndQ (w0:World) (N mb N1 B5 B6 l D:Nat) (r:Loop) (bs:List Int) (lev:Int) (prev:Option Int) (pre:List (Int×NodeA)) (x:Int×NodeA) (W:World):Exit->Act->World->Prop
 | .normal,_,W3=>q3r bs lev prev x/\LvJ w0 N mb N1 B5 B6 l D r lev (pre++[x]) W3/\q4u N1 l B6 W W3
 | .panic ch,a,W3=>a.defers=[]/\ch=errC/\ ¬q3r bs lev prev x/\Below N w0 W3/\W3.heap[D]?=some (.deferred (some []))
 | _,_,_=>False
theorem LvJ.putL {w0:World} {N mb N1 B5 B6 l D:Nat} {r r':Loop} {I:Int} {pre:List (Int×NodeA)} {W:World} (h:LvJ w0 N mb N1 B5 B6 l D r I pre W) (hl:l≠B5/\l≠B6/\l≠D/\w0.heap.size<=l):LvJ w0 N mb N1 B5 B6 l D r' I pre (W.putObj l (.loop r')):=by obtain⟨rv,h1,h2⟩:=h.row;have hlt:=(AA.1 h.loop.lp).1;have ho:Only [l] W (W.putObj l (.loop r')):=(Only.refl _ _).putObj (Or.inl (by simp)) _;refine⟨⟨World.putObj_heap_same hlt,(World.putObj_heap_other (fun e=>hl.2.2.1 e.symm)).trans h.loop.df⟩,ho.blk h.b5 (by simp;exact fun e=>hl.1 e.symm),⟨rv,ho.blk h1 (by simp;exact fun e=>hl.2.1 e.symm),ho.own h2 (fun k hk hm=> ?_)⟩,h.only'.trans ho (fun x hx=>Or.inr (by rw[AF.1 hx];exact hl.2.2.2)),h.base⟩;obtain⟨cs,t,fr,hc⟩:=q5e h2 k hk;rw[AF.1 hm,h.loop.lp] at hc;cases hc
theorem x4s {n:Nat} {f0:FuncId} {tmps:Array Value} {assign body:Code} {A1:Int×NodeA->Nat->Act} (hf:∃fn,Tryz.prog.funcs[f0]?=some fn) (w0:World) (N N1 B5 B6 l D:Nat) (B:LkP) (bs:List Int) (root:Int) (lv pr:Value) (R0:List Int) (I a0:Int) (Ba Bl:Nat) (W:World) (h9:0<=a0/\a0<=18446744073709551615)
  (hlt:B.lb<w0.heap.size/\B.wb<w0.heap.size/\B.hb<w0.heap.size/\B.mb<w0.heap.size) (hj:B5=w0.heap.size) (hq:B6=w0.heap.size+1) (hbl:Bl=w0.heap.size+2) (hba:Ba=w0.heap.size+3) (hi:N1=w0.heap.size+4) (hD:D=w0.heap.size+4) (hl:l=w0.heap.size+5) (hz:N<=w0.heap.size) (hm:N<=B.mb)
  (ht:W.heap.size=w0.heap.size+6)
  (hh:∀a∈R0,∀nd,q1y bs a=some nd->nd.lv≠I)
  (hassign:∀(x:Int×NodeA) (W1:World),∃W2,Below W1.heap.size W1 W2/\Blk W2 W1.heap.size 55 (q0x x.2)/\ ∀K:Act->World->Prop,K (A1 x W1.heap.size) W2->assign.wpIn (Fence.wide.inRound l) (n-1) Tryz.prog (Exit.then K (fun _ _ _=>False)) { tmps:=((#[15,16]:Array Tmp).zip #[.int .u64 x.1,.agg (q0x x.2)]).foldl (fun t (p,v)=>t.setIfInBounds p v) tmps,defers:=[] } W1)
  (hbody:∀pre L x nb W1,q1e (q1y bs) I a0 pre L x.1->pre.length<=1000000->N1<=nb->nb≠l->LvJ w0 N B.mb N1 B5 B6 l D (recF f0 tmps #[15,16] assign body D .busy) I pre W1->Blk W1 nb 55 (q0x x.2)->body.wpIn (Fence.wide.inRound l) (n-1) Tryz.prog (RndQ w0 N B.mb N1 B5 B6 l D (recF f0 tmps #[15,16] assign body D .busy) bs I L pre x W1) (A1 x nb) W1)
  (h0:LvJ w0 N B.mb N1 B5 B6 l D (recF f0 tmps #[15,16] assign body D .ready) I [] W) (hL:q1j W N B bs root lv pr R0) (ha:Blk W Ba 51 #[.int .u64 a0]) (hg:W.cell? ⟨Bl,0,none⟩=some (.pointer (some ⟨B.lb,0,none⟩))) (U:bs.length<=1000000):
  CallsIn Fence.wide n Tryz.prog 241 #[.func (.yield l) #[] #[],.pointer (some ⟨Ba,0,none⟩),.pointer (some ⟨Bl,0,none⟩)] W fun e W'=>
   ((∃v,e= .returned v)/\ ∃row,q0a (q1y bs) I none a0 row/\LvJ w0 N B.mb N1 B5 B6 l D (recF f0 tmps #[15,16] assign body D .ready) I row W'/\q1j W' N B bs root lv pr (R0++row.map (·.1)))\/
   (e= .panicked errC/\(∀r,¬q0a (q1y bs) I none a0 r)/\Below N w0 W'/\W'.heap[D]?=some (.deferred (some []))):=by
 refine x5k n l N N1 B6 B bs root lv pr R0 I a0 Ba Bl (fun pre W=>LvJ w0 N B.mb N1 B5 B6 l D (recF f0 tmps #[15,16] assign body D .ready) I pre W/\W.heap.size≥N1/\ ∀x∈pre,0<=x.1) (fun W=>Below N w0 W/\W.heap[D]?=some (.deferred (some []))) W h9 (by omega) (by omega) (by omega) (by omega) hh ?_ ?_ ?_ ⟨h0,by omega,fun x hx=>by cases hx⟩ hL ha hg |>.mono ?_
 ·rintro pre A A' ⟨h1,h2,h3⟩ ho;exact⟨h1.only ho (fun k hk=>by simp at hk;omega) (by omega),by have:=ho.size;omega,h3⟩
 ·rintro pre A A' ⟨h1,h2,h3⟩ ho;have h4:=h1.only ho (fun k hk=>by simp at hk;omega) (by omega);exact⟨h4.bel,h4.loop.df⟩
 ·rintro pre L x W1 hC h6 h7 h8 ⟨hJ,hp,O⟩;obtain⟨W2,Y,k2,hA⟩:=hassign x W1;have h5:LvJ w0 N B.mb N1 B5 B6 l D (recF f0 tmps #[15,16] assign body D .ready) I pre W2:=by have:=hJ.only (Only.of_below Y []) (fun k hk=>by cases hk) (by omega);exact this
  have hr:=(AA.1 hJ.loop.lp).1;have hy:=x4p (P:=Tryz.prog) (n:=n-1) (l:=l) (D:=D) (W:=W1) (W2:=W2) (a1:=A1 x W1.heap.size) (args:= #[.int .u64 x.1,.agg (q0x x.2)]) (J:=fun W'=>q3r bs I L x/\LvJ w0 N B.mb N1 B5 B6 l D (recF f0 tmps #[15,16] assign body D .ready) I (pre++[x]) W'/\q4u N1 l B6 W1 W') (Pp:=fun ch W'=>ch=errC/\ ¬q3r bs I L x/\Below N w0 W'/\W'.heap[D]?=some (.deferred (some []))) hf (by omega) hJ.loop h5.loop rfl hA ?_
  ·refine hy.mono ?_;rintro e W' (⟨rfl,_,h1,h2,h3⟩|⟨ch,rfl,rfl,he,hb⟩)
   ·refine Or.inl ⟨rfl,h1.1,h1.2.1,h1.2.2,⟨h2,by have:=h3.1;omega,fun y hy=> ?_⟩,h3⟩;rcases An.1 hy with h|h;·exact O y h
    ·rw[AF.1 h];exact h7
   ·exact Or.inr ⟨rfl,hC.no h6 fun nd M q1 q2 q3=>he (by rw[h8] at M;injection M with M;subst M;exact⟨q1,q2,q3⟩),hb⟩
  ·intro W' S hs;have ho:Only [l] W2 W':=by rw[S];exact(Only.refl _ _).putObj (Or.inl (by simp)) _
   have hb:=hbody pre L x W1.heap.size W' hC (AH (z1s hC hL.fix.some' O) U) (by omega) (by omega) (by rw[S];exact h5.putL (by omega)) (ho.blk k2 (by simp;omega));refine wpIn_mono hb ?_;intro e a W3 h;cases e with
   | normal=>refine⟨h.2.1.loop,h.1,h.2.1.putL (by omega),?_⟩;refine(q4u.of_below Y).trans (q4u.trans ?_ (h.2.2.trans (q4u.putL _ _ _ _ _)));rw[S];exact q4u.putL _ _ _ _ _
   | panic ch=>exact⟨h.1,h.2⟩
   | ret=>exact h.elim
   | exit id=>exact h.elim
   | goto t=>exact h.elim
   | outgrown=>exact h.elim
 ·rintro e W' (⟨h1,row,h2,⟨h3,_,_⟩,h4⟩|h);·exact Or.inl ⟨h1,row,h2,h3,h4⟩
  ·exact Or.inr h
end
section
def bldR (P:Program) (t:TypeId) (ps:Array (Nat×Value)) (w:World):Result Value:=(Instr.build t ps).run P w
def bldM (t:TypeId) (ps:Array (Nat×Value)):Sem Value:=Instr.build t ps
theorem q2t (P:Program) (t:TypeId) (ps:Array (Nat×Value)) (w:World):(bldM t ps).run P w=bldR P t ps w:=rfl
theorem q5s (ps:Array (Nat×Value)):Instr.build 196 ps=bldM 196 ps:=rfl
def bslR (P:Program) (t:TypeId) (n:Nat) (ps:Array (Nat×Value)) (w:World):Result Value:=(Instr.buildSlice t n ps).run P w
def bslM (t:TypeId) (n:Nat) (ps:Array (Nat×Value)):Sem Value:=Instr.buildSlice t n ps
theorem q4g (P:Program) (t:TypeId) (n:Nat) (ps:Array (Nat×Value)) (w:World):(bslM t n ps).run P w=bslR P t n ps w:=rfl
theorem q4e (n:Nat) (ps:Array (Nat×Value)):Instr.buildSlice 148 n ps=bslM 148 n ps:=rfl
attribute [local go_sem ↓ high] q5s q4e
attribute [local go_sem] q2t q4g
theorem q7t (n:NodeA) (a:Int) (w:World):bldR Tryz.prog 196 #[(0,.agg (q0x n)),(1,.int .u64 a)] w= .ok (.agg (q3h n a 0 false).toArray) w:=by kernel_rfl
theorem z1k (n:NodeA) (a:Int) (w:World):bslR Tryz.prog 148 1 #[(0,.agg (q3h n a 0 false).toArray)] w= .ok (.slice (some ⟨w.heap.size,0,none⟩) 1 1) (w.alloc (.cells (q3h n a 0 false).toArray 196)):=by kernel_rfl
theorem z6m (n:NodeA) (a h:Int) (b:Bool):(q3h n a h b).length=24:=rfl
theorem z3u {α:Type} (f:Nat->List α) (hf:∀i,(f i).length=24):∀(n i j:Nat),i<n->j<24->((List.range n).flatMap f)[i*24+j]?=(f i)[j]?
 | 0,i,j,h,_=>absurd h (BP _)
 | n+1,i,j,h,hj=>by
  have hl:((List.range n).flatMap f).length=n*24:=by
   clear h
   induction n with
   | zero=>rfl
   | succ n ih=>rw[Ay,Al,AI,ih];simp[hf];omega
  rw[Ay,Al];by_cases hi:i<n;·rw[Aa (by rw[hl];omega)];exact z3u f hf n i j hi hj
  ·have:i=n:=by omega
   subst this;rw[Ac (by rw[hl];omega),hl,Nat.add_sub_cancel_left];simp
theorem x2i {α:Type} (f:Nat->List α) (hf:∀i,(f i).length=24) (n:Nat):((List.range n).flatMap f).length=n*24:=by
 induction n with
 | zero=>rfl
 | succ n ih=>rw[Ay,Al,AI,ih];simp[hf];omega
theorem z7v (row:List (Int×NodeA)) (i:Nat):(q6y row i).length=24:=rfl
theorem z2x (row:List (Int×NodeA)):q4a row=(List.range row.length).flatMap (q6y row):=rfl
theorem q7p {row:List (Int×NodeA)} {i j:Nat} {x:Int×NodeA} (hx:row[i]?=some x) (hj:j<24):(q4a row)[i*24+j]?=(q3h x.2 x.1 (q2a row i) (hasI row i))[j]?:=by have hi:=(AE.1 hx).1;rw[z2x,z3u (q6y row) (z7v row) _ _ _ hi hj];unfold q6y;rw[hx];rfl
theorem q4i {w:World} {base:Nat} {v:Value} {n:Nat} {xs:List Value} (h:w.ownsRow base 196 24 v n xs) (h0:0<n):∃g cap I,v= .slice (some ⟨g,0,none⟩) n cap/\base<=g/\n<=cap/\cap<=maxLen/\Blk w g 196 I/\I.size=cap*24/\I.toList.take (n*24)=xs:=by
 rcases h.2 with⟨_,h2⟩|⟨g,cap,I,rfl,h2,h3,h4,h5,h6,h7⟩;·omega
 ·exact⟨g,cap,I,rfl,h2,h4,h5,h3,h6,h7⟩
theorem z0t {A A':Array Value} (pre post L I:List Value) (h:A=(pre++(L++post)).toArray) (h':A'=(pre++(I++post)).toArray) (hl:L.length=I.length) (t:Nat) (ht:t<pre.length\/pre.length+L.length<=t):A'[t]?=A[t]?:=by
 rw[h,h',Az,Az];rcases ht with ht|ht;·rw[Aa ht,Aa ht]
 ·rw[Ac (by omega),Ac (by omega),Ac (by omega),Ac (by omega),hl]
theorem z2y {I:Array Value} {m:Nat} {xs:List Value} (h:I.toList.take m=xs) {i:Nat} {x:Value} (hx:xs[i]?=some x):I[i]?=some x:=by
 rw[<- h,AV] at hx;split at hx
 ·rwa[Ad] at hx
 ·cases hx
theorem v1d:(Tryz.prog.info? 196).map (fun i=>(i.zero,i.size,i.bytes))=some (some (.agg (q3h q2w 0 0 false).toArray),24,192):=by kernel_rfl
theorem z5x {w:World} {base:Nat} {e:TypeId} {size n g cap:Nat} {xs:List Value} (h:w.ownsRow base e size (.slice (some ⟨g,0,none⟩) n cap) n xs) (i:Nat) (u:Value):(w.setCell ⟨g,i,none⟩ u).ownsRow base e size (.slice (some ⟨g,0,none⟩) n cap) n (xs.set i u):=by
 rcases h.2 with⟨h1,_⟩|⟨g',L,I,h1,h2,h3,h4,h5,h6,h7⟩;·cases h1
 ·injection h1 with h1 _ hc;injection h1 with h1;injection h1 with h1;subst h1 hc;refine⟨by rw[CP];exact h.1,Or.inr ⟨g,cap,I.setIfInBounds i u,rfl,h2,?_,h4,h5,by rw[CG];exact h6,?_⟩⟩;·exact(show Blk w g e I from h3).set_ i u
  ·rw[CU,List.take_set,h7]
theorem z4z (pre:List (Int×NodeA)) (x:Int×NodeA):q6y (pre++[x]) pre.length=q3h x.2 x.1 0 false:=by
 unfold q6y q2a hasI;have h1:(pre++[x])[pre.length]?=some x:=by simp
 have h2:(pre++[x])[pre.length+1]?=none:=by simp
 rw[h1,h2];simp
theorem x5y (pre:List (Int×NodeA)) (x:Int×NodeA) {i:Nat} (h:i+1<pre.length):q6y (pre++[x]) i=q6y pre i:=by
 unfold q6y q2a hasI;rw[Aa (by omega),Aa h];have:decide (i+1< (pre++[x]).length)=decide (i+1<pre.length):=by simp;omega
 rw[this]
theorem x6b (pre:List (Int×NodeA)) (x:Int×NodeA) {m:Nat} (h:m+1=pre.length):q6y (pre++[x]) m=((q6y pre m).set 22 (.int .u64 x.2.low)).set 23 (.bool true):=by
 unfold q6y q2a hasI;have h1:(pre++[x])[m+1]?=some x:=by rw[h];simp
 have h2:pre[m+1]?=none:=by rw[h];simp
 rw[Aa (by omega),h1,h2];have:decide (m+1< (pre++[x]).length)=true:=by simp;omega
 rw[this];rfl
theorem z0a {α:Type} (f g:Nat->List α):∀n,(∀i,i<n->f i=g i)->(List.range n).flatMap f=(List.range n).flatMap g
 | 0,_=>rfl
 | n+1,h=>by rw[Ay,Al,Al,z0a f g n (fun i hi=>h i (by omega))];simp[h n (by omega)]
theorem z3e (x:Int×NodeA):q4a [x]=q3h x.2 x.1 0 false:=by have:=z4z [] x;unfold q4a;simp only[List.nil_append,List.length_nil] at this;simp[this]
theorem z1e (pre:List (Int×NodeA)) (x:Int×NodeA) {m:Nat} (h:m+1=pre.length):q4a (pre++[x])=((q4a pre).set (m*24+22) (.int .u64 x.2.low)).set (m*24+23) (.bool true)++q3h x.2 x.1 0 false:=by
 have hl:=x2i (q6y pre) (z7v pre) m;have e1:q4a pre=(List.range m).flatMap (q6y pre)++q6y pre m:=by rw[z2x,<- h,Ay,Al];simp
 have e2:q4a (pre++[x])=((List.range m).flatMap (q6y pre)++q6y (pre++[x]) m)++q3h x.2 x.1 0 false:=by rw[z2x,AI,Bj,Ay,Al,<- h,Ay,Al,z0a _ (q6y pre) m (fun i hi=>x5y pre x (by omega))];have:=z4z pre x;rw[<- h] at this;simp[this]
 rw[e2,e1,x6b pre x h,CQ _ _ (by omega),CQ _ _ (by omega),hl,show m*24+22-m*24=22 by omega,show m*24+23-m*24=23 by omega]
theorem q4u.of_own {N1 l B6:Nat} {A A':World} {v:Value} {n:Nat} {xs:List Value} (h:Only v.ownBlock.toList A A') (hr:A.ownsRow N1 196 24 v n xs):q4u N1 l B6 A A':=by
 refine⟨h.size,fun k o hk h1 h2 h3=>(h.block k (AA.1 hk).1 (fun hm=> ?_)).trans hk⟩;have I:v.ownBlock=some k:=by simpa[Option.mem_toList] using hm
 rcases hr.2 with⟨e1,_⟩|⟨g,cap,L,e1,e2,e3,_⟩;·rw[e1] at I;cases I
 ·rw[e1] at I;have:g=k:=by simpa[Value.ownBlock] using I
  subst this;rcases h3 with h3|h3;·omega
  ·rw[e3] at hk;injection hk with hk;exact h3 _ _ hk.symm
theorem z5v {w0:World} {N mb N1 B5 B6 l D:Nat} {r:Loop} {U:Int} {pre:List (Int×NodeA)} {W2 W5:World} {rv:Value} {xs:List Value} (x:Int×NodeA) (k:Nat) (hk:k=pre.length) (hk6:k<=1000000) (hJ:LvJ w0 N mb N1 B5 B6 l D r U pre W2) (h5:Blk W2 B6 148 #[rv]) (S:W2.ownsRow N1 196 24 rv k (q4a pre)) (h3:Only rv.ownBlock.toList W2 W5) (hf:W5.ownsRow N1 196 24 rv k xs) (hx:xs++q3h x.2 x.1 0 false=q4a (pre++[x])) (hN:w0.heap.size<=N1) (hl:N1<=W5.heap.size) (hB:B5<N1/\B6<N1/\w0.heap.size<=B6/\l≠B6/\D≠B6/\B5≠B6):
  ∃va vc w9,q0n Tryz.prog #[148,148] 148 #[rv,.slice (some ⟨W5.heap.size,0,none⟩) 1 1] (W5.alloc (.cells (q3h x.2 x.1 0 false).toArray 196))= .ok (.slice va (k+1) vc) w9/\Blk w9 B6 148 #[rv]/\
   LvJ w0 N mb N1 B5 B6 l D r U (pre++[x]) (w9.setCell ⟨B6,0,none⟩ (.slice va (k+1) vc))/\q4u N1 l B6 W2 (w9.setCell ⟨B6,0,none⟩ (.slice va (k+1) vc)):=by
 have Y:∀y,rv.ownBlock=some y->N1<=y:=by
  intro y hy;rcases S.2 with⟨e1,_⟩|⟨g,cap,hh,e1,e2,_⟩;·rw[e1] at hy;cases hy
  ·rw[e1] at hy;have:g=y:=by simpa[Value.ownBlock] using hy
   omega
 have O:∀y,y<N1->y∉rv.ownBlock.toList:=fun y hy hm=>by have:=Y y (by simpa[Option.mem_toList] using hm);omega
 have I:∀y,rv.ownBlock=some y-> ∀o:Obj,W2.heap[y]?=some o->o.isCells=true:=by intro y hy o ho;obtain⟨cs,t,fr,hc⟩:=q5e S y hy;rw[hc] at ho;injection ho with ho;subst ho;rfl
 obtain⟨i0,ha,hg,hj,h9⟩:=info_parts v1d;have he:(W5.alloc (.cells (q3h x.2 x.1 0 false).toArray 196)).ownsRow N1 196 24 rv k xs:=((Only.refl [] W5).alloc _).own hf (by simp);obtain⟨v',w9,hA⟩:=q2b (P:=Tryz.prog) (W5.alloc (.cells (q3h x.2 x.1 0 false).toArray 196)) N1 148 148 196 i0 _ 24 192 Tryz.underlying148 ha hg hj h9 rfl (by decide) rv k _ he (.slice (some ⟨W5.heap.size,0,none⟩) 1 1) 1 (q3h x.2 x.1 0 false) (Or.inr ⟨W5.heap.size,0,1,rfl,fun i u hi=>by rw[(Blk.new W5 196 (q3h x.2 x.1 0 false).toArray).cell (0+i),AQ,Az];exact hi⟩) rfl (fun u hu=>by unfold q3h q0x at hu;simp at hu;rcases hu with rfl|rfl|rfl|rfl|rfl|rfl|rfl|rfl|rfl|rfl|rfl|rfl|rfl|rfl|rfl|rfl|rfl|rfl|rfl|rfl|rfl|rfl|rfl|rfl<;>rfl) (by unfold maxLen;omega) (by omega) (by simp;omega);have M:=hA.own;have h4:=hA.grown;obtain⟨va,vc,rfl⟩:=q0q M;have o9:Only rv.ownBlock.toList W5 w9:=(((Only.refl [] W5).alloc _).mono (fun _ h=>by cases h)).trans (Only.of_grown (f:=rv.ownBlock.toList) h4 (fun y hy=>by simp[hy])) (fun y hy=>Or.inl hy);have L:Only rv.ownBlock.toList W2 w9:=h3.trans o9 (fun y hy=>Or.inl hy);have h2:Blk w9 B6 148 #[rv]:=L.blk h5 (O B6 hB.2.1);have oS:Only [B6] w9 (w9.setCell ⟨B6,0,none⟩ (.slice va (k+1) vc)):=(Only.refl _ _).setCell (Or.inl (by simp)) _
 have h6:∀y,(Value.slice va (k+1) vc).ownBlock=some y->y∉ [B6]:=by
  intro y hy hm;rw[AF] at hm;rcases M.2 with⟨e1,_⟩|⟨g,cap,hh,e1,e2,_⟩;·rw[e1] at hy;cases hy
  ·rw[e1] at hy;have:g=y:=by simpa[Value.ownBlock] using hy
   omega
 have h7:l∉rv.ownBlock.toList:=fun hm=>by have:=I l (by simpa[Option.mem_toList] using hm) _ hJ.loop.lp;cases this
 have h8:D∉rv.ownBlock.toList:=fun hm=>by have:=I D (by simpa[Option.mem_toList] using hm) _ hJ.loop.df;cases this
 refine⟨va,vc,w9,hA.run,h2,⟨⟨(oS.block l (AL (AA.1 hJ.loop.lp).1 L.size) (by simpa using hB.2.2.2.1)).trans ((L.block l (AA.1 hJ.loop.lp).1 h7).trans hJ.loop.lp),(oS.block D (AL (AA.1 hJ.loop.df).1 L.size) (by simpa using hB.2.2.2.2.1)).trans ((L.block D (AA.1 hJ.loop.df).1 h8).trans hJ.loop.df)⟩,oS.blk (L.blk hJ.b5 (O B5 hB.1)) (by simpa using hB.2.2.2.2.2),⟨_,h2.set_ 0 _,?_⟩,?_,hJ.base⟩,?_⟩
 ·rw[AI,Bj,<- hk];have:=oS.own M h6
  rwa[hx] at this
 ·exact(hJ.only'.trans L (fun y hy=>Or.inr (by have:=Y y (by simpa[Option.mem_toList] using hy);omega))).trans oS (fun y hy=>Or.inr (by rw[AF.1 hy];exact hB.2.2.1))
 ·refine(q4u.of_own L S).trans ⟨oS.size,fun y o hy h1 _ _=>(oS.block y (AA.1 hy).1 (by simpa using h1)).trans hy⟩
theorem q5i (v:Value):Instr.loadAt 196 v=ldM 196 v:=rfl
theorem q5x (p v:Value):Instr.storeAt 196 p v=stM 196 p v:=rfl
theorem z5z {w:World} {b i:Nat} {t:TypeId} {cs:Array Value} {n:NodeA} {a h:Int} {f:Bool} (hb:Blk w b t cs) (hx:∀j v,(q3h n a h f)[j]?=some v->cs[i+j]?=some v):ldR Tryz.prog 196 (.pointer (some ⟨b,i,none⟩)) w= .ok (.agg (q3h n a h f).toArray) w:=hb.ldAt i (fun j v hv=>hx j v (by rwa[Az] at hv)) Tryz.underlying196 rfl (by kernel_rfl)
theorem z1d (W:World) (n:NodeA) (a h:Int) (f:Bool):∃W',stR Tryz.prog 196 (.pointer (some ⟨W.heap.size,0,none⟩)) (.agg (q3h n a h f).toArray) (W.alloc (.cells #[.int .i64 0,.int .u64 0,.int .u64 0,.int .u64 0,.int .u64 0,.int .u64 0,.int .u64 0,.int .u64 0,.int .u64 0,.int .u64 0,.int .u64 0,.int .u64 0,.int .u64 0,.int .u64 0,.int .u64 0,.int .u64 0,.int .u64 0,.int .u64 0,.int .u64 0,.int .u64 0,.int .u64 0,.int .u64 0,.int .u64 0,.bool false] 196))= .ok () W'/\Blk W' W.heap.size 196 (q3h n a h f).toArray/\Below W.heap.size W W':=by have hb:Blk (W.alloc (.cells #[.int .i64 0,.int .u64 0,.int .u64 0,.int .u64 0,.int .u64 0,.int .u64 0,.int .u64 0,.int .u64 0,.int .u64 0,.int .u64 0,.int .u64 0,.int .u64 0,.int .u64 0,.int .u64 0,.int .u64 0,.int .u64 0,.int .u64 0,.int .u64 0,.int .u64 0,.int .u64 0,.int .u64 0,.int .u64 0,.int .u64 0,.bool false] 196)) W.heap.size 196 (q3h q2w 0 0 false).toArray:=Blk.new W _ _;refine⟨_,hb.st (by kernel_rfl) rfl (by kernel_rfl),setRow_heap _ _ _ _ _ _ hb,?_⟩;have h1:Only [W.heap.size] (W.alloc (.cells #[.int .i64 0,.int .u64 0,.int .u64 0,.int .u64 0,.int .u64 0,.int .u64 0,.int .u64 0,.int .u64 0,.int .u64 0,.int .u64 0,.int .u64 0,.int .u64 0,.int .u64 0,.int .u64 0,.int .u64 0,.int .u64 0,.int .u64 0,.int .u64 0,.int .u64 0,.int .u64 0,.int .u64 0,.int .u64 0,.int .u64 0,.bool false] 196)) ((W.alloc (.cells #[.int .i64 0,.int .u64 0,.int .u64 0,.int .u64 0,.int .u64 0,.int .u64 0,.int .u64 0,.int .u64 0,.int .u64 0,.int .u64 0,.int .u64 0,.int .u64 0,.int .u64 0,.int .u64 0,.int .u64 0,.int .u64 0,.int .u64 0,.int .u64 0,.int .u64 0,.int .u64 0,.int .u64 0,.int .u64 0,.int .u64 0,.bool false] 196)).setRow W.heap.size (q3h n a h f).toArray):=⟨rfl,rfl,rfl,by simp,fun x hx hn=>setRow_other _ _ x _ (by simpa using hn)⟩;exact(((Only.refl [W.heap.size] W).alloc _).trans h1 (fun _ h=>Or.inl h)).below (by simp) (AG _)
theorem z7e {w:World} {b:Nat} {n:NodeA} {a h:Int} {f:Bool} (hb:Blk w b 196 (q3h n a h f).toArray):ldR Tryz.prog 55 (.pointer (some ⟨b,0,none⟩)) w= .ok (.agg (q0x n)) w:=hb.ldAt 0 (fun j v hv=>by rw[AQ,Az];unfold q3h;rw[<- Ad] at hv;rw[Aa (AE.1 hv).1];exact hv) Tryz.underlying55 rfl (by kernel_rfl)
def q5n (W:World) (N:Nat) (v:Value) (row:List (Int×NodeA)):Prop:=W.ownsRow N 196 24 v row.length (q4a row)
structure q5h (W:World) (N:Nat) (B:LkP) (lv:Value) (rows:List (List (Int×NodeA))):Prop where
 own:∃vs,vs.length=rows.length/\W.ownsRow N 148 1 lv rows.length vs/\(∀(i:Nat) (row:List (Int×NodeA)),rows[i]?=some row-> ∃v,vs[i]?=some v/\q5n W N v row)
 apart:∀k,lv.ownBlock=some k->k≠B.lb/\k≠B.wb/\k≠B.hb/\k≠B.mb
def v4y (w:World) (N:Nat) (B:LkP) (bs:List Int) (root:Int) (pr:Value) (R0:List Int) (rows:List (List (Int×NodeA))) (lev a0:Int) (e:Ending) (w':World):Prop:=Below N w w'/\((∃row lv',q0a (q1y bs) lev none a0 row/\q9f row/\e= .returned (.tuple #[])/\q1j w' N B bs root lv' pr (R0++row.map (·.1))/\q5h w' N B lv' (rows++[row]))\/((∀row,¬(q0a (q1y bs) lev none a0 row/\q9f row))/\e= .panicked errC))
theorem q5h.only {W W':World} {N:Nat} {B:LkP} {lv:Value} {rows:List (List (Int×NodeA))} {f:List Nat} (h:q5h W N B lv rows) (ho:Only f W W') (hf:∀k∈f,W.heap.size<=k\/(∀cs fr,W.heap[k]?≠some (.cells cs 196 fr)/\W.heap[k]?≠some (.cells cs 148 fr))):q5h W' N B lv rows:=by
 obtain⟨vs,h1,h2,h3⟩:=h.own;refine⟨⟨vs,h1,ho.own h2 (fun k hk hm=> ?_),fun i row hi=> ?_⟩,h.apart⟩
 ·rcases h2.2 with⟨e1,_⟩|⟨g,cap,I,e1,e2,e3,_⟩;·rw[e1] at hk;cases hk
  ·rw[e1] at hk;have:g=k:=by simpa[Value.ownBlock] using hk
   subst this;rcases hf g hm with h|h;·have:=(AA.1 e3).1;omega
   ·exact(h I (0,0)).2 e3
 ·obtain⟨v,q1,q2⟩:=h3 i row hi;refine⟨v,q1,ho.own q2 (fun k hk hm=> ?_)⟩;rcases q2.2 with⟨e1,_⟩|⟨g,cap,I,e1,e2,e3,_⟩;·rw[e1] at hk;cases hk
  ·rw[e1] at hk;have:g=k:=by simpa[Value.ownBlock] using hk
   subst this;rcases hf g hm with h|h;·have:=(AA.1 e3).1;omega
   ·exact(h I (0,0)).1 e3
theorem v6y:(Tryz.prog.info? 148).map (fun i=>(i.zero,i.size,i.bytes))=some (some (.slice none 0 0),1,24):=by kernel_rfl
theorem q0l {W:World} {base n size:Nat} {e:TypeId} {v:Value} {xs:List Value} (h:W.ownsRow base e size v n xs):∀k,v.ownBlock=some k->base<=k/\ ∃cs,W.heap[k]?=some (.cells cs e (0,0)):=by
 intro k hk;rcases h.2 with⟨e1,_⟩|⟨g,cap,I,e1,e2,e3,_⟩;·rw[e1] at hk;cases hk
 ·rw[e1] at hk;have:g=k:=by simpa[Value.ownBlock] using hk
  subst this;exact⟨e2,I,e3⟩
theorem x9k {W:World} {N:Nat} {B:LkP} {bs:List Int} {root:Int} {lv pr:Value} {R:List Int} {rows:List (List (Int×NodeA))} {row:List (Int×NodeA)} {rv:Value} (hL:q1j W N B bs root lv pr R) (hV:q5h W N B lv rows) (h4:q5n W N rv row) (hN:N<=W.heap.size) (hj:rows.length<=1000) (h1:rv.oneCell'=true):
  ∃va vc w9,q0n Tryz.prog #[140,140] 140 #[lv,.slice (some ⟨W.heap.size,0,none⟩) 1 1] ((W.alloc (.cells #[rv] 148)).drew)= .ok (.slice va (rows.length+1) vc) w9/\w9.cell? ⟨B.lb,4,none⟩=some lv/\w9.frozen? ⟨B.lb,4,none⟩=false/\
   q1j (w9.setCell ⟨B.lb,4,none⟩ (.slice va (rows.length+1) vc)) N B bs root (.slice va (rows.length+1) vc) pr R/\q5h (w9.setCell ⟨B.lb,4,none⟩ (.slice va (rows.length+1) vc)) N B (.slice va (rows.length+1) vc) (rows++[row])/\Below N W (w9.setCell ⟨B.lb,4,none⟩ (.slice va (rows.length+1) vc))/\Only (B.lb::lv.ownBlock.toList) W (w9.setCell ⟨B.lb,4,none⟩ (.slice va (rows.length+1) vc)):=by
 obtain⟨vs,q1,q2,q3⟩:=hV.own;obtain⟨i0,ha,hg,hh,h9⟩:=info_parts v6y;have h8:∀k,lv.ownBlock=some k->N<=k/\k<W.heap.size:=fun k hk=>by obtain⟨h2,cs,h3⟩:=q0l q2 k hk;exact⟨h2,(AA.1 h3).1⟩
 have he:((W.alloc (.cells #[rv] 148)).drew).ownsRow N 148 1 lv rows.length vs:=(((Only.refl [] W).alloc _).drew).own q2 (by simp);obtain⟨v',w9,hA⟩:=q2b (P:=Tryz.prog) ((W.alloc (.cells #[rv] 148)).drew) N 140 140 148 i0 _ 1 24 Tryz.underlying140 ha hg hh h9 rfl (by decide) lv rows.length _ he (.slice (some ⟨W.heap.size,0,none⟩) 1 1) 1 [rv] (Or.inr ⟨W.heap.size,0,1,rfl,fun i u hi=>by rw[(Blk.new W 148 #[rv]).drew.cell (0+i),AQ];simpa using hi⟩) rfl (fun u hu=>by rw[AF.1 hu];exact h1) (by unfold maxLen;omega) (by omega) (by simp;omega);have U:=hA.own;have h7:=hA.grown;have h6:=hA.ob;obtain⟨va,vc,rfl⟩:=q0q U;have o9:Only lv.ownBlock.toList W w9:=((((Only.refl [] W).alloc _).drew).mono (fun _ h=>by cases h)).trans (Only.of_grown (f:=lv.ownBlock.toList) h7 (fun y hy=>by simp[hy])) (fun y hy=>Or.inl hy);have Y:∀y,y∈lv.ownBlock.toList->y≠B.lb/\y≠B.wb/\y≠B.hb/\y≠B.mb:=fun y hy=>hV.apart y (by simpa[Option.mem_toList] using hy);have M:q1j w9 N B bs root lv pr R:=hL.only o9 (fun hm=>(Y _ hm).1 rfl) (fun hm=>(Y _ hm).2.1 rfl) (fun hm=>(Y _ hm).2.2.1 rfl) (fun hm=>(Y _ hm).2.2.2 rfl);have oS:Only [B.lb] w9 (w9.setCell ⟨B.lb,4,none⟩ (.slice va (rows.length+1) vc)):=(Only.refl _ _).setCell (Or.inl (by simp)) _;have h5:=M.ne
 have S:∀k,(Value.slice va (rows.length+1) vc).ownBlock=some k->k≠B.lb/\k≠B.wb/\k≠B.hb/\k≠B.mb:=by
  intro k hk;rcases h6 with h|h;·exact hV.apart k (h▸hk)
  ·rw[h] at hk;injection hk with hk;have e1:=hL.cells.lt;have e2:=hL.fix.words.1;have e3:=hL.fix.hlt;have e4:=hL.set.lt;have e5:((W.alloc (.cells #[rv] 148)).drew).heap.size=W.heap.size+1:=World.size_alloc _ _;omega
 have L:Only (B.lb::lv.ownBlock.toList) W (w9.setCell ⟨B.lb,4,none⟩ (.slice va (rows.length+1) vc)):=(o9.mono (fun _ h=>AW _ h)).trans oS (fun x hx=>Or.inl (by rw[AF.1 hx];exact Ae ..))
 have I:∀v r,q5n W N v r->q5n (w9.setCell ⟨B.lb,4,none⟩ (.slice va (rows.length+1) vc)) N v r:=by
  intro v r hr;refine L.own hr (fun k hk hm=> ?_);obtain⟨_,cs,hc⟩:=q0l hr k hk;rcases AN.1 hm with e|e;·have hb:W.heap[B.lb]?=_:=hL.cells;rw[<- e,hc] at hb;injection hb with hb;injection hb with _ hb;cases hb
  ·obtain⟨_,hl,O⟩:=q0l q2 k (by simpa[Option.mem_toList] using e);rw[hc] at O;injection O with O;injection O with _ O;cases O
 refine⟨va,vc,w9,hA.run,M.cells.cell 4,M.cells.frozen 4,⟨M.cells.set_ 4 _,M.fix.only oS (by simp;omega) (by simp;omega),M.set.only oS (by simp;omega),M.ge,h5⟩,⟨⟨vs++[rv],by simp[q1],?_,fun i r hi=> ?_⟩,S⟩,?_,L⟩;·have:=oS.own U (fun k hk hm=>(S k hk).1 (by simpa using hm));rw[AI,Bj];exact this
 ·by_cases hlt:i<rows.length;·rw[Aa hlt] at hi;obtain⟨v,e1,e2⟩:=q3 i r hi;exact⟨v,by rw[Aa (by omega)];exact e1,I v r e2⟩
  ·have hf:=(AE.1 hi).1;simp at hf;have:i=rows.length:=by omega
   subst this;rw[Ac (AG _),Bz] at hi;injection hi with hi;subst hi;refine⟨rv,?_,I rv row h4⟩;rw[Ac (by omega),q1,Bz];rfl
 ·refine L.below (fun x hx=> ?_) hN;rcases AN.1 hx with e|e;·rw[e];exact hL.ge.1
  ·exact(h8 x (by simpa[Option.mem_toList] using e)).1
def q5y (Q:Exit->Act->World->Prop):Exit->Act->World->Prop
 | .panic _,_,_=>False
 | e,a,w=>Q e a w
theorem q5y.imp {Q:Exit->Act->World->Prop}:∀(e:Exit) (a:Act) (w:World),q5y Q e a w->Q e a w:=fun e a w h=>by cases e<;>first|exact h|exact(h:False).elim
theorem q5y.normal {Q:Exit->Act->World->Prop} {a:Act} {w:World} (h:Q .normal a w):q5y Q .normal a w:=h
theorem x5o {n:Nat} {P:Program} {fn:Func} {R:Ending->World->Prop} {t:Array Value} {D:Nat} {W:World} (v:Value) (h:W.heap[D]?=some (.deferred (some []))) (I:(results fn t).run P (W.putObj D (.deferred none))= .ok v (W.putObj D (.deferred none))) (hR:R (.returned v) (W.putObj D (.deferred none))):
  bodyPostM Fence.wide n P fn R Exit.normal { tmps:=t,defers:=[{ target:= .collected D,args:= #[] }] } W:=
 ⟨by simp,.inl ⟨_,_,rfl,run_takeDeferred h,⟨v,I,hR⟩⟩⟩
theorem z8c {n:Nat} {P:Program} {fn:Func} {R:Ending->World->Prop} {t:Array Value} {D:Nat} {W:World} {ch:List PanicEntry} (h:W.heap[D]?=some (.deferred (some []))) (hR:R (.panicked ch) (W.putObj D (.deferred none))):
  bodyPostM Fence.wide n P fn R (Exit.panic ch) { tmps:=t,defers:=[{ target:= .collected D,args:= #[] }] } W:=
 ⟨by simp,.inl ⟨_,_,rfl,run_takeDeferred h,hR⟩⟩
end
end Go.Proofs.YtibiekfjbibpbaaGreat
