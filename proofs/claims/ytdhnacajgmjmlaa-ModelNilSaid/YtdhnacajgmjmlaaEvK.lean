/- An abstract machine, part 11: the machine. Of no program. -/
import Derived.Test.YtdhnacajgmjmlaaEvW
namespace Go.Proofs.Ytdhnacajgmjmlaa.Ev
open Go.RowKit
noncomputable section
set_option linter.unusedVariables false
set_option linter.unusedSimpArgs false

/-! ### the same value -/
def aveq : Nat → AV → AV → Bool
  | 0, _, _ => false
  | f + 1, a, b => match a with
    | .int _ _ => isInt a b
    | .bool p => (match b with | .bool q => ifB p q (not q) | _ => false)
    | .nilptr => (match b with | .nilptr => true | _ => false)
    | .ptr x o => (match b with | .ptr y o' => ifB (Nat.beq x y) (Nat.beq o o') false | _ => false)
    | .nilsl => (match b with | .nilsl => true | _ => false)
    | .sl x o n c => (match b with
      | .sl y o' n' c' => ifB (Nat.beq x y) (ifB (Nat.beq o o') (ifB (Nat.beq n n') (match c with
        | .known p => (match c' with | .known q => Nat.beq p q | _ => false)
        | .rest p => (match c' with | .rest q => Nat.beq p q | _ => false)) false) false) false
      | _ => false)
    | .slz x => (match b with | .slz y => Nat.beq x y | _ => false)
    | .nilmap => (match b with | .nilmap => true | _ => false)
    | .map x => (match b with | .map y => Nat.beq x y | _ => false)
    | .func g fi ca => (match b with | .func g' fi' ca' => ifB (Nat.beq g g') (ifB (avseq f fi fi') (avseq f ca ca') false) false | _ => false)
    | .yield x => (match b with | .yield y => Nat.beq x y | _ => false)
    | .nilfunc => (match b with | .nilfunc => true | _ => false)
    | .iface t v => (match b with | .iface t' v' => ifB (Nat.beq t t') (aveq f v v') false | _ => false)
    | .niliface => (match b with | .niliface => true | _ => false)
    | .agg cs => (match b with | .agg cs' => avseq f cs cs' | _ => false)
    | .tup cs => (match b with | .tup cs' => avseq f cs cs' | _ => false)
    | .str s => (match b with | .str s' => bytesEq s.data.toList s'.data.toList | _ => false)
where
  avseq (f : Nat) : List AV → List AV → Bool
    | [], [] => true
    | a :: as, b :: bs => ifB (aveq f a b) (avseq f as bs) false
    | _, _ => false

/-! ### frames -/
/-- an operation that was taken ahead: its place; of one that makes memory also its operands and the name that waits -/
inductive PE where
  | val (i : Nat)
  | mem (i : Nat) (vals : List AV) (id : Nat)
def PE.i : PE → Nat | .val i => i | .mem i _ _ => i
inductive AI where
  | code (c : Code)
  | inBlock (id : Nat)
  | inLoop (c : Code)
  | inScope (c : Code)
  | ops (all : Array Oper) (rest : List Oper)
  | draw (all : Array Oper) (lst : Nat) (pend : List PE) (cur : Option Nat)
  | inRange (l : Nat)
  | endRange (l : Nat)
  | begin
/-- how a frame goes: it runs, it returns, it panics with this (recovered?) -/
inductive AM where
  | run
  | ret
  | pan (v : AV) (r : Bool)
/-- a call, a round, a deferred call -/
inductive AK where
  | norm
  | round (l : Nat)
  | dfr
/-- a mark of a loop over a function, a deferred call -/
inductive AD where
  | mark (b : Nat)
  | call (f : Nat) (args : List AV)
structure AF where
  fn : Nat
  nt : Nat
  tmps : Tr AV
  todo : List AI
  defs : List AD
  ret : AM
  rnd : AK
  base : Nat
structure S where
  f : AF
  cs : List AF
  h : H

def setDst (nt : Nat) (tm : Tr AV) (d : Option Nat) (v : AV) (k : Tr AV → Option S) : Option S := match d with
  | none => k tm
  | some d => ifB (Nat.blt d nt) (tm.setT d (some v) k) none
/-! masks -/
def tb (m i : Nat) : Bool := Nat.beq (Nat.mod (Nat.shiftRight m i) 2) 1
def sb (m i : Nat) : Nat := Nat.lor m (Nat.shiftLeft 1 i)
def edgesOk (m : Nat) (es : List Edge) : Bool := List.rec (motive := fun _ => Bool) true (fun e _ ih => ifB (bindsA e) (ifB (tb m e.on) ih false) ih) es
def edgeMask (es : List Edge) (m : Nat) : Nat := List.rec (motive := fun _ => Nat → Nat) (fun m => m) (fun e _ ih m => ifB (bindsA e) (ih (sb m e.on)) (ih m)) es m
def dstOf (all : Array Oper) (i : Nat) : Option Nat := opt (lget all.toList i) fun o => o.dst
def wantedA (all : Array Oper) (tm : Tr AV) (o : Oper) : Bool := match o.guard with
  | none => true
  | some (g, want) => match dstOf all g with
    | none => false
    | some d => match cellAt tm .undef d with | .bool b => ifB b want (not want) | _ => false
/-- what an operation that may be taken ahead gives -/
inductive SR where
  | v (a : AV)
  | m (vals : List AV) (o : AO) (mk : Nat → AV)
def soft (E : Env) (all : Array Oper) (tm : Tr AV) (h : H) (o : Oper) : Option SR :=
  ifB (antiA all o) none (ifB (wantedA all tm o) (match vopX E tm h o.op with
    | some v => some (.v v)
    | none => opt (optMap (aev tm) o.op.operands.toList) fun vals => opt (mop E o.op vals) fun p => some (.m vals p.1 p.2)) (some (.v .undef)))
/-- are operations that were taken ahead still what they were? -/
def validE (E : Env) (all : Array Oper) (tm : Tr AV) (h : H) (p : PE) : Bool := match p with
  | .val i => match lget all.toList i with
    | none => false
    | some o => ifB (wantedA all tm o) (match vopX E tm h o.op with
      | none => false
      | some v => match o.dst with | none => true | some d => aveq 6 v (cellAt tm .undef d))
      (match o.dst with | none => true | some d => aveq 6 .undef (cellAt tm .undef d))
  | .mem i vals _ => match lget all.toList i with
    | none => false
    | some o => ifB (wantedA all tm o) (match vopX E tm h o.op with
      | some _ => false
      | none => match optMap (aev tm) o.op.operands.toList with | none => false | some vs => aveq.avseq 6 vals vs) false
def allValid (E : Env) (all : Array Oper) (tm : Tr AV) (h : H) (ps : List PE) : Bool := List.rec (motive := fun _ => Bool) true (fun p _ ih => ifB (validE E all tm h p) ih false) ps
/-- all that may be taken ahead is -/
def pass (E : Env) (all : Array Oper) (nt : Nat) : List Oper → Nat → Tr AV → H → Nat → List PE → (Tr AV → H → Nat → List PE → Option S) → Option S
  | [], _, tm, h, lst, pend, k => k tm h lst pend
  | o :: os, i, tm, h, lst, pend, k => ifB (tb lst i) (pass E all nt os (Nat.succ i) tm h lst pend k) (ifB (edgesOk lst o.after.toList) (match soft E all tm h o with
    | none => pass E all nt os (Nat.succ i) tm h lst pend k
    | some (.v a) => setDst nt tm o.dst a fun tm' => seqN (sb lst i) fun lst' => pass E all nt os (Nat.succ i) tm' h lst' (.val i :: pend) k
    | some (.m vals O mk) => addB h O fun id h' => setDst nt tm o.dst (mk id) fun tm' => seqN (sb lst i) fun lst' => pass E all nt os (Nat.succ i) tm' h' lst' (.mem i vals id :: pend) k)
      (pass E all nt os (Nat.succ i) tm h lst pend k))
def rdyL (lst : Nat) : List Oper → Nat → List Nat
  | [], _ => []
  | o :: os, i => ifB (tb lst i) (rdyL lst os (Nat.succ i)) (ifB (edgesOk lst o.after.toList) (i :: rdyL lst os (Nat.succ i)) (rdyL lst os (Nat.succ i)))
/-- what is known to be done is struck -/
def prune (all : Array Oper) : Nat → List PE → List PE
  | _, [] => []
  | m, p :: ps => ifB (tb m p.i) (match lget all.toList p.i with | some o => prune all (edgeMask o.after.toList m) ps | none => prune all m ps) (p :: prune all m ps)
def pruneBy (all : Array Oper) (j : Nat) (ps : List PE) : List PE := match lget all.toList j with
  | some o => prune all (edgeMask o.after.toList 0) ps
  | none => ps

/-! calls -/
def hcall (E : Env) (tm : Tr AV) (c : Call) : Option R1 := match c.callee with
  | .value f => opt (aev tm f) fun fv => opt (optMap (aev tm) c.args.toList) fun args => match fv with
    | .func g fi ca => opt (E.fn.get g) fun _ => (match E.kt.get g with
      | none => some (.enter g (fi ++ (args ++ ca)))
      | some _ => match fi ++ (args ++ ca) with
        | [] => some (.known g)
        | _ => none)
    | .yield l => some (.round l args)
    | _ => none
  | _ => none
def hdefer (E : Env) (tm : Tr AV) (c : Call) : Option R1 := match c.callee with
  | .value f => opt (aev tm f) fun fv => opt (optMap (aev tm) c.args.toList) fun args => match fv with
    | .func g fi ca => some (.defr g (fi ++ (args ++ ca)))
    | _ => none
  | _ => none
def hpanic (tm : Tr AV) (x : Operand) : Option R1 := opt (aev tm x) fun v => match v with
  | .iface _ _ => some (.pan v)
  | _ => none
/-- any operation -/
def hop (E : Env) (tm : Tr AV) (h : H) (op : Op) : Option R1 := match op with
  | .store t a x => hstore E tm h t a x
  | .mapUpdate t m k x => hmapUpdate E tm h t m k x
  | .insert t m k x => hmapUpdate E tm h t m k x
  | .range t x => hrange E tm h t x
  | .next it s => hnext tm h it s
  | .mapEntry t m k => hmapEntry E tm h t m k
  | .entryStore _ m s x => hentryStore tm h m s x
  | .call c => (match c.callee with
    | .builtin b => (match b with | .append => happend E tm h c | .copy => hcopy E tm h c | .delete => hdelete E tm h c | .recover => some .recov | _ => none)
    | .invoke recv name => hinvoke E tm h recv name c.args
    | .value f => match hcall E tm c with
      | some r => some r
      | none => hext E tm h f c.args)
  | .defer c => hdefer E tm c
  | .panic x => hpanic tm x
  | _ => none
def aop (E : Env) (tm : Tr AV) (h : H) (op : Op) : Option R1 := match vopX E tm h op with
  | some v => some (.val v h)
  | none => match hop E tm h op with
    | some r => some r
    | none => opt (optMap (aev tm) op.operands.toList) fun vals => opt (mop E op vals) fun p => addB h p.1 fun id h' => some (.val (p.2 id) h')

/-! ### steps -/
def exitA (id : Nat) : List AI → Option (List AI)
  | [] => none
  | x :: k => match x with
    | .inBlock id' => ifB (Nat.beq id' id) (some k) (exitA id k)
    | _ => exitA id k
def finishF (f : AF) (v : AV) (k : AF → Option S) : Option S := match f.todo with
  | [] => none
  | x :: t => match x with
    | .ops all rest => (match rest with
      | [] => none
      | o :: rest => match o.dst with
        | none => k { f with todo := .ops all rest :: t }
        | some d => ifB (Nat.blt d f.nt) (f.tmps.setT d (some v) fun tm => k { f with tmps := tm, todo := .ops all rest :: t }) none)
    | .draw all lst pend cur => (match cur with
      | none => none
      | some j => match dstOf all j with
        | none => seqN (sb lst j) fun lst' => k { f with todo := .draw all lst' (pruneBy all j pend) none :: t }
        | some d => ifB (Nat.blt d f.nt) (f.tmps.setT d (some v) fun tm => seqN (sb lst j) fun lst' => k { f with tmps := tm, todo := .draw all lst' (pruneBy all j pend) none :: t }) none)
    | .inRange l => k { f with todo := .endRange l :: t }
    | .begin => k { f with todo := t }
    | _ => none
def ftodo (f : AF) (t : List AI) : AF := ⟨f.fn, f.nt, f.tmps, t, f.defs, f.ret, f.rnd, f.base⟩
/-- a frame of arguments -/
def putArgs (tm : Tr AV) (i : Nat) (args : List AV) (k : Tr AV → Nat → Option S) : Option S := List.rec (motive := fun _ => Tr AV → Nat → Option S) (fun tm i => k tm i) (fun a _ ih tm i => tm.setT i (some a) fun tm' => seqN (Nat.succ i) fun i' => ih tm' i') args tm i
def enterF (E : Env) (g : Nat) (args : List AV) (cs : List AF) (h : H) : Option S := opt (E.fn.get g) fun fn => opt fn.body fun body => putArgs .e 0 args fun tm n => seqN (Nat.add n (Nat.sub fn.ntmps n)) fun nt => some ⟨⟨g, nt, tm, [.code body], [], .run, .norm, h.next⟩, cs, h⟩
def putParams (nt : Nat) (tm : Tr AV) (ps : List Nat) (args : List AV) (k : Tr AV → Option S) : Option S := match ps with
  | [] => (match args with | [] => k tm | _ => none)
  | p :: ps => match args with
    | [] => none
    | a :: as => ifB (Nat.blt p nt) (tm.setT p (some a) fun tm' => putParams nt tm' ps as k) none
def roundF (l : Nat) (args : List AV) (cs : List AF) (h : H) : Option S := opt (blk h l) fun ob => match ob with
  | .loop _ _ fn tm nt ps asg body _ => putParams nt tm ps.toList args fun tm' => some ⟨⟨fn, nt, tm', [.code asg, .begin, .code body], [], .run, .round l, h.next⟩, cs, h⟩
  | _ => none
def leaveN (s : S) (jump : Option Code) : Option S := match jump with
  | none => some ⟨⟨s.f.fn, s.f.nt, s.f.tmps, s.f.todo, s.f.defs, .ret, s.f.rnd, s.f.base⟩, s.cs, s.h⟩
  | some c => match c with
    | .ret => some ⟨⟨s.f.fn, s.f.nt, s.f.tmps, s.f.todo, s.f.defs, .ret, s.f.rnd, s.f.base⟩, s.cs, s.h⟩
    | _ => none
def leaveS (s : S) (jump : Option Code) : Option S := match s.f.rnd with
  | .norm => leaveN s jump
  | .dfr => leaveN s jump
  | .round l => opt (blk s.h l) fun ob => match ob with
    | .loop _ _ fn tm nt ps asg body d => (match s.cs with
      | [] => none
      | c :: cs => match jump with
        | none => putB s.h l (.loop .ready none fn tm nt ps asg body d) fun h' => finishF c (.bool true) fun c' => some ⟨c', cs, h'⟩
        | some j => putB s.h l (.loop .done (some j) fn tm nt ps asg body d) fun h' => finishF c (.bool false) fun c' => some ⟨c', cs, h'⟩)
    | _ => none
/-- the results -/
def resVals (E : Env) (tm : Tr AV) (h : H) : List ResultVar → Option (List AV)
  | [] => some []
  | r :: rs => match r with
    | .tmp t => opt (resVals E tm h rs) fun l => some (cellAt tm .undef t :: l)
    | .cell a t => opt (E.ty.get t) fun ti => match cellAt tm .undef a with
      | .ptr b o => opt (loadAt ti h b o) fun v => opt (resVals E tm h rs) fun l => some (v :: l)
      | _ => none
def resOf (E : Env) (s : S) : Option AV := opt (E.fn.get s.f.fn) fun fn => opt (resVals E s.f.tmps s.h fn.results.toList) fun l => match l with
  | [v] => some v
  | l => some (.tup l)
def setDk (s : S) : S := ⟨⟨s.f.fn, s.f.nt, s.f.tmps, s.f.todo, s.f.defs, s.f.ret, .dfr, s.f.base⟩, s.cs, s.h⟩
/-- a frame's deferred calls, where it returns or panics -/
def defS (E : Env) (s : S) (d : AD) (ds : List AD) : Option S := match d with
  | .mark b => opt (blk s.h b) fun ob => (match ob with
    | .defr t => ifB t none (putB s.h b (.defr true) fun h' => some ⟨⟨s.f.fn, s.f.nt, s.f.tmps, s.f.todo, ds, s.f.ret, s.f.rnd, s.f.base⟩, s.cs, h'⟩)
    | _ => none)
  | .call g args => opt (enterF E g args (⟨s.f.fn, s.f.nt, s.f.tmps, s.f.todo, ds, s.f.ret, s.f.rnd, s.f.base⟩ :: s.cs) s.h) fun s' => some (setDk s')
/-- a deferred call has returned to its frame -/
def backS (c : AF) (cs : List AF) (h : H) : S := match c.ret with
  | .pan _ true => ⟨⟨c.fn, c.nt, c.tmps, c.todo, c.defs, .ret, c.rnd, c.base⟩, cs, h⟩
  | _ => ⟨c, cs, h⟩
def retS (E : Env) (s : S) : Option S := match s.f.defs with
  | d :: ds => defS E s d ds
  | [] => match s.cs with
    | [] => none
    | c :: cs => opt (resOf E s) fun v => match s.f.rnd with
      | .dfr => some (backS c cs s.h)
      | _ => finishF c v fun c' => some ⟨c', cs, s.h⟩
/-- a frame that panics -/
def panS (E : Env) (s : S) (v : AV) (r : Bool) : Option S := match s.f.defs with
  | d :: ds => defS E s d ds
  | [] => match s.cs with
    | [] => none
    | c :: cs => ifB r none (opt (E.fn.get s.f.fn) fun _ => match c.ret with
      | .run => some ⟨⟨c.fn, c.nt, c.tmps, c.todo, c.defs, .pan v false, c.rnd, c.base⟩, cs, s.h⟩
      | _ => none)
def rangeS (E : Env) (s : S) (f : Operand) (ps : Array Tmp) (asg body : Code) (k : List AI) : Option S := opt (aev s.f.tmps f) fun fv => match fv with
  | .func g fi ca => (match s.f.rnd with
    | .dfr => none
    | .norm => addB s.h (.defr false) fun d h1 => addB h1 (.loop .ready none s.f.fn s.f.tmps s.f.nt ps asg body d) fun l h2 =>
        enterF E g (fi ++ (.yield l :: ca)) (⟨s.f.fn, s.f.nt, s.f.tmps, .inRange l :: k, .mark d :: s.f.defs, s.f.ret, s.f.rnd, s.f.base⟩ :: s.cs) h2
    | .round l0 => opt (blk s.h l0) fun ob => match ob with
      | .loop _ _ _ _ _ _ _ _ d => addB s.h (.loop .ready none s.f.fn s.f.tmps s.f.nt ps asg body d) fun l h2 =>
        enterF E g (fi ++ (.yield l :: ca)) (⟨s.f.fn, s.f.nt, s.f.tmps, .inRange l :: k, s.f.defs, s.f.ret, s.f.rnd, s.f.base⟩ :: s.cs) h2
      | _ => none)
  | _ => none
def codeS (E : Env) (s : S) (c : Code) (k : List AI) : Option S := match c with
  | .skip => some ⟨ftodo s.f k, s.cs, s.h⟩
  | .label _ => some ⟨ftodo s.f k, s.cs, s.h⟩
  | .seq a b => some ⟨ftodo s.f (.code a :: .code b :: k), s.cs, s.h⟩
  | .cond c a b => opt (aev s.f.tmps c) fun v => (match v with
    | .bool t => some ⟨ftodo s.f (.code (ifB t a b) :: k), s.cs, s.h⟩
    | _ => none)
  | .block id body => some ⟨ftodo s.f (.code body :: .inBlock id :: k), s.cs, s.h⟩
  | .loop body => some ⟨ftodo s.f (.code body :: .inLoop body :: k), s.cs, s.h⟩
  | .scope body => some ⟨ftodo s.f (.code body :: .inScope body :: k), s.cs, s.h⟩
  | .exit id => (match exitA id k with
    | some k' => some ⟨ftodo s.f k', s.cs, s.h⟩
    | none => leaveS s (some (.exit id)))
  | .ret => leaveS s (some .ret)
  | .region _ ops draw => some ⟨ftodo s.f (ifB draw (.draw ops 0 [] none) (.ops ops ops.toList) :: k), s.cs, s.h⟩
  | .rangeFunc f ps asg body => rangeS E s f ps asg body k
  | _ => none
/-- a deferred call is laid; the builtin recover -/
def deferS (s : S) (g : Nat) (args : List AV) : Option S := match s.f.rnd with
  | .round _ => none
  | _ => finishF s.f .undef fun f => some ⟨⟨f.fn, f.nt, f.tmps, f.todo, .call g args :: f.defs, f.ret, f.rnd, f.base⟩, s.cs, s.h⟩
def recN (s : S) : Option S := finishF s.f .niliface fun f => some ⟨f, s.cs, s.h⟩
def recS (s : S) : Option S := match s.f.rnd with
  | .round _ => none
  | .norm => recN s
  | .dfr => match s.cs with
    | [] => none
    | c :: cs => match c.ret with
      | .pan v r => ifB r (recN s) (finishF s.f v fun f => some ⟨f, ⟨c.fn, c.nt, c.tmps, c.todo, c.defs, .pan v true, c.rnd, c.base⟩ :: cs, s.h⟩)
      | _ => recN s
def opS (E : Env) (s : S) (all : Array Oper) (o : Oper) : Option S := ifB (wantedA all s.f.tmps o) (opt (aop E s.f.tmps s.h o.op) fun r => match r with
  | .val v h' => finishF s.f v fun f' => some ⟨f', s.cs, h'⟩
  | .enter g args => enterF E g args (s.f :: s.cs) s.h
  | .round l args => roundF l args (s.f :: s.cs) s.h
  | .defr g args => deferS s g args
  | .pan v => some ⟨⟨s.f.fn, s.f.nt, s.f.tmps, s.f.todo, s.f.defs, .pan v false, s.f.rnd, s.f.base⟩, s.cs, s.h⟩
  | .recov => recS s
  | .known _ => finishF s.f (.bool true) fun f' => some ⟨f', s.cs, s.h⟩) (finishF s.f .undef fun f' => some ⟨f', s.cs, s.h⟩)
def drawS (E : Env) (s : S) (all : Array Oper) (lst : Nat) (pend : List PE) (k : List AI) : Option S :=
  pass E all s.f.nt all.toList 0 s.f.tmps s.h lst pend fun tm h lst pend => match rdyL lst all.toList 0 with
    | [] => ifB (allValid E all tm h pend) (some ⟨⟨s.f.fn, s.f.nt, tm, k, s.f.defs, s.f.ret, s.f.rnd, s.f.base⟩, s.cs, h⟩) none
    | [j] => ifB (allValid E all tm h pend) (opt (lget all.toList j) fun o => opS E ⟨⟨s.f.fn, s.f.nt, tm, .draw all lst pend (some j) :: k, s.f.defs, s.f.ret, s.f.rnd, s.f.base⟩, s.cs, h⟩ all o) none
    | _ => none
def endK (s : S) (k : List AI) (pd : Option Code) (h' : H) : Option S := match pd with
  | none => some ⟨ftodo s.f k, s.cs, h'⟩
  | some c => some ⟨ftodo s.f (.code c :: k), s.cs, h'⟩
def notDraw (t : List AI) : Bool := match t with
  | [] => true
  | x :: _ => match x with | .draw _ _ _ _ => false | _ => true
def runS (E : Env) (s : S) : Option S := match s.f.todo with
  | [] => leaveS s none
  | x :: k => match x with
    | .code c => codeS E s c k
    | .inBlock _ => some ⟨ftodo s.f k, s.cs, s.h⟩
    | .inScope _ => some ⟨ftodo s.f k, s.cs, s.h⟩
    | .inLoop c => some ⟨ftodo s.f (.code c :: .inLoop c :: k), s.cs, s.h⟩
    | .ops all rest => (match rest with
      | [] => some ⟨ftodo s.f k, s.cs, s.h⟩
      | o :: _ => opS E s all o)
    | .draw all lst pend cur => (match cur with
      | none => drawS E s all lst pend k
      | some _ => none)
    | .inRange _ => none
    | .endRange l => opt (blk s.h l) fun ob => (match ob with
      | .loop st pd fn tm nt ps asg body d => (match st with
        | .busy => none
        | _ => putB s.h l (.loop .exhausted pd fn tm nt ps asg body d) fun h' => endK s k pd h')
      | _ => none)
    | .begin => match s.f.rnd with
      | .norm => none
      | .dfr => none
      | .round l => opt (blk s.h l) fun ob => (match ob with
        | .loop st pd fn tm nt ps asg body d => (match st with
          | .ready => putB s.h l (.loop .busy pd fn tm nt ps asg body d) fun h' => some ⟨ftodo s.f k, s.cs, h'⟩
          | _ => none)
        | _ => none)
def step (E : Env) (s : S) : Option S := match s.f.ret with
  | .run => runS E s
  | .ret => ifB (notDraw s.f.todo) (retS E s) none
  | .pan v r => panS E s v r
/-! all of a state made plain: else the kernel looks at a field through all that was done to the others since -/
def forceL {α β : Type} (l : List α) (k : List α → β) : β := List.rec (motive := fun _ => β) (k []) (fun x xs _ => k (x :: xs)) l
def forceT {α β : Type} (t : Tr α) (k : Tr α → β) : β := Tr.rec (motive := fun _ => β) (k .e) (fun v l r _ _ => k (.n v l r)) t
def forceAM {β : Type} (m : AM) (k : AM → β) : β := AM.rec (motive := fun _ => β) (k .run) (k .ret) (fun v r => k (.pan v r)) m
def forceAK {β : Type} (m : AK) (k : AK → β) : β := AK.rec (motive := fun _ => β) (k .norm) (fun l => k (.round l)) (k .dfr) m
def forceS {β : Type} (s : S) (k : S → β) : β := S.rec (motive := fun _ => β) (fun f cs h => AF.rec (motive := fun _ => β) (fun fn nt tm todo defs rmode rnd base =>
  seqN fn fun fn => seqN nt fun nt => forceT tm fun tm => forceL todo fun todo => forceL defs fun defs => forceAM rmode fun rmode => forceAK rnd fun rnd => seqN base fun base => forceL cs fun cs =>
  H.rec (motive := fun _ => β) (fun t n => forceT t fun t => seqN n fun n => k ⟨⟨fn, nt, tm, todo, defs, rmode, rnd, base⟩, cs, ⟨t, n⟩⟩) h) f) s
theorem forceL_eq {α β : Type} (l : List α) (k : List α → β) : forceL l k = k l := by cases l <;> rfl
theorem forceT_eq {α β : Type} (t : Tr α) (k : Tr α → β) : forceT t k = k t := by cases t <;> rfl
theorem forceAM_eq {β : Type} (m : AM) (k : AM → β) : forceAM m k = k m := by cases m <;> rfl
theorem forceAK_eq {β : Type} (m : AK) (k : AK → β) : forceAK m k = k m := by cases m <;> rfl
theorem forceS_eq {β : Type} (s : S) (k : S → β) : forceS s k = k s := by
  obtain ⟨⟨fn, nt, tm, todo, defs, rmode, rnd, base⟩, cs, t, n⟩ := s
  unfold forceS
  simp only [seqN_eq, forceT_eq, forceL_eq, forceAM_eq, forceAK_eq]
/-- so many steps -/
def runA (E : Env) (n : Nat) : S → Option S := Nat.rec (motive := fun _ => S → Option S) (fun s => some s) (fun _ ih s => Option.rec (motive := fun _ => Option S) none (fun s' => forceS s' ih) (step E s)) n
/-- has it come to an end that gives this? -/
def fin (E : Env) (F : Nat) (s : S) : Option AV := match s.f.ret with
  | .ret => (match s.f.rnd with
    | .norm => (match s.f.defs with
      | [] => (match s.cs with | [] => ifB (notDraw s.f.todo) (ifB (Nat.beq s.f.fn F) (resOf E s) none) none | _ => none)
      | _ => none)
    | _ => none)
  | _ => none

end
end Go.Proofs.Ytdhnacajgmjmlaa.Ev
