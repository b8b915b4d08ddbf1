/- An abstract machine, part 13: the model's own steps, one by one. Of no program. -/
import Derived.Orders
import Derived.Test.YtdhnacajgmjmlaaEvP
namespace Go.Proofs.Ytdhnacajgmjmlaa.Ev
open Go.RowKit
noncomputable section
set_option linter.unusedVariables false
set_option linter.unusedSimpArgs false

/-- a frame that runs -/
def fr (kd : CallKind) (fn : FuncId) (t : Array Value) (todo : List Item) (d : List Deferred) (rnd : Option Nat) : Frame := { fn := fn, tmps := t, todo := todo, defers := d, mode := .run, kind := kd, roundOf := rnd }
/-- one that unwinds by a panic -/
def frP (ch : List PanicEntry) (kd : CallKind) (fn : FuncId) (t : Array Value) (todo : List Item) (d : List Deferred) (rnd : Option Nat) : Frame := { fn := fn, tmps := t, todo := todo, defers := d, mode := .panicking ch, kind := kd, roundOf := rnd }
def frR (kd : CallKind) (fn : FuncId) (t : Array Value) (todo : List Item) (d : List Deferred) (rnd : Option Nat) : Frame := { fn := fn, tmps := t, todo := todo, defers := d, mode := .returning, kind := kd, roundOf := rnd }
section
variable {P : Program} {kd : CallKind} {fn : FuncId} {t : Array Value} {k : List Item} {d : List Deferred} {rnd : Option Nat} {cs : List Frame} {w : World}
abbrev SG (P : Program) (f : Frame) (cs : List Frame) (w : World) : GStep := (stepG P true { frame := f, callers := cs, status := .running, dying := none } w).bare
abbrev GO (f : Frame) (cs : List Frame) (w : World) : GStep := .go { frame := f, callers := cs, status := .running, dying := none } w
theorem steps_of {f f' : Frame} {cs' : List Frame} {w' : World} (h : SG P f cs w = GO f' cs' w') : Steps P (lone f cs w) (lone f' cs' w') := .one (step_lone_go h)

theorem m_skip : SG P (fr kd fn t (.code .skip :: k) d rnd) cs w = GO (fr kd fn t k d rnd) cs w := by simp [SG, GO, stepG, stepG.exec, fr]
theorem m_label {l : Nat} : SG P (fr kd fn t (.code (.label l) :: k) d rnd) cs w = GO (fr kd fn t k d rnd) cs w := by simp [SG, GO, stepG, stepG.exec, fr]
theorem m_inBlock {l : Nat} : SG P (fr kd fn t (.inBlock l :: k) d rnd) cs w = GO (fr kd fn t k d rnd) cs w := by simp [SG, GO, stepG, stepG.exec, fr]
theorem m_inScope {l : Code} : SG P (fr kd fn t (.inScope l :: k) d rnd) cs w = GO (fr kd fn t k d rnd) cs w := by simp [SG, GO, stepG, stepG.exec, fr]
theorem m_seq {a b : Code} : SG P (fr kd fn t (.code (.seq a b) :: k) d rnd) cs w = GO (fr kd fn t (.code a :: .code b :: k) d rnd) cs w := by simp [SG, GO, stepG, stepG.exec, fr]
theorem m_cond {c : Operand} {a b : Code} {v : Bool} (h : (fr kd fn t (.code (.cond c a b) :: k) d rnd).eval c = .bool v) : SG P (fr kd fn t (.code (.cond c a b) :: k) d rnd) cs w = GO (fr kd fn t (.code (if v then a else b) :: k) d rnd) cs w := by
  simp only [fr] at h
  simp [SG, GO, stepG, stepG.exec, fr, h]
theorem m_block {id : Nat} {c : Code} : SG P (fr kd fn t (.code (.block id c) :: k) d rnd) cs w = GO (fr kd fn t (.code c :: .inBlock id :: k) d rnd) cs w := by simp [SG, GO, stepG, stepG.exec, fr]
theorem m_loop {c : Code} : SG P (fr kd fn t (.code (.loop c) :: k) d rnd) cs w = GO (fr kd fn t (.code c :: .inLoop c :: k) d rnd) cs w := by simp [SG, GO, stepG, stepG.exec, fr]
theorem m_inLoop {c : Code} : SG P (fr kd fn t (.inLoop c :: k) d rnd) cs w = GO (fr kd fn t (.code c :: .inLoop c :: k) d rnd) cs w := by simp [SG, GO, stepG, stepG.exec, fr]
theorem m_scope {c : Code} : SG P (fr kd fn t (.code (.scope c) :: k) d rnd) cs w = GO (fr kd fn t (.code c :: .inScope c :: k) d rnd) cs w := by simp [SG, GO, stepG, stepG.exec, fr]
theorem m_exit {id : Nat} {k' : List Item} (h : exitTo id k = some k') : SG P (fr kd fn t (.code (.exit id) :: k) d rnd) cs w = GO (fr kd fn t k' d rnd) cs w := by simp [SG, GO, stepG, stepG.exec, fr, h]
theorem m_region {id : Nat} {ops : Array Oper} : SG P (fr kd fn t (.code (.region id ops false) :: k) d rnd) cs w = GO (fr kd fn t (.inRegion ops (List.range ops.size) :: k) d rnd) cs w := by simp [SG, GO, stepG, stepG.exec, fr]
theorem m_draw {id : Nat} {ops : Array Oper} : SG P (fr kd fn t (.code (.region id ops true) :: k) d rnd) cs w = GO (fr kd fn t (.inRegion ops (Region.schedule (P.follows .mixedOrders) ops (w.tape w.drawn (.order fn id))) :: k) d rnd) cs { w with drawn := w.drawn + 1 } := by
  simp [SG, GO, stepG, stepG.exec, fr, choose, Sem.run, Question.forced, Question.cut]
theorem m_regionEnd {ops : Array Oper} : SG P (fr kd fn t (.inRegion ops [] :: k) d rnd) cs w = GO (fr kd fn t k d rnd) cs w := by simp [SG, GO, stepG, stepG.exec, fr]
theorem m_leave_nil : SG P (fr kd fn t [] d none) cs w = GO (frR kd fn t [] d none) cs w := by simp [SG, GO, stepG, stepG.exec, fr, frR]
theorem m_leave_ret : SG P (fr kd fn t (.code .ret :: k) d none) cs w = GO (frR kd fn t (.code .ret :: k) d none) cs w := by simp [SG, GO, stepG, stepG.exec, fr, frR]
theorem m_round_nil {l : Nat} {c : Frame} {v : Value} {w' : World} (h : (Instr.endRound l none).run P w = .ok v w') : SG P (fr .normal fn t [] d (some l)) (c :: cs) w = GO (c.finish v) cs w' := by simp [SG, GO, stepG, stepG.exec, fr, h, doReturn]
theorem m_round_ret {l : Nat} {c : Frame} {v : Value} {w' : World} (h : (Instr.endRound l (some .ret)).run P w = .ok v w') : SG P (fr .normal fn t (.code .ret :: k) d (some l)) (c :: cs) w = GO (c.finish v) cs w' := by simp [SG, GO, stepG, stepG.exec, fr, h, doReturn]
theorem m_round_exit {l id : Nat} {c : Frame} {v : Value} {w' : World} (hx : exitTo id k = none) (h : (Instr.endRound l (some (.exit id))).run P w = .ok v w') : SG P (fr .normal fn t (.code (.exit id) :: k) d (some l)) (c :: cs) w = GO (c.finish v) cs w' := by simp [SG, GO, stepG, stepG.exec, fr, hx, h, doReturn]
theorem m_begin {l : Nat} {w' : World} (h : (Instr.beginRound l).run P w = .ok () w') : SG P (fr kd fn t (.beginRound :: k) d (some l)) cs w = GO (fr kd fn t k d (some l)) cs w' := by
  simp [SG, GO, stepG, stepG.exec, fr, stepG.apply, h, Frame.finish]
theorem m_endRange {l : Nat} {j : Option Code} {w' : World} (h : (Instr.endLoop l).run P w = .ok j w') : SG P (fr kd fn t (.endRangeFunc l :: k) d rnd) cs w = GO (fr kd fn t ((j.map Item.code).toList ++ k) d rnd) cs w' := by
  simp [SG, GO, stepG, stepG.exec, fr, h]
theorem m_skipOp {ops : Array Oper} {i : Nat} {rest : List Nat} (h : ((ops[i]?).map (Region.wanted · (yielded ops t))).getD false = false) :
    SG P (fr kd fn t (.inRegion ops (i :: rest) :: k) d rnd) cs w = GO ((fr kd fn t (.inRegion ops (i :: rest) :: k) d rnd).finish undef) cs w := by
  simp [SG, GO, stepG, stepG.exec, fr, h]
/-- an operation that gives a value, or nothing -/
theorem m_op {ops : Array Oper} {i : Nat} {rest : List Nat} {o : Oper} (ho : ops[i]? = some o) (hw : Region.wanted o (yielded ops t) = true) {n : Next} {v : Value} {w' : World}
    (h : (execOp (fr kd fn t (.inRegion ops (i :: rest) :: k) d rnd).eval o).run P w = .ok n w') (hv : valOf n = some v) :
    SG P (fr kd fn t (.inRegion ops (i :: rest) :: k) d rnd) cs w = GO ((fr kd fn t (.inRegion ops (i :: rest) :: k) d rnd).finish v) cs w' := by
  have hnd : ∀ l c, rnd = some l → o.op = .defer c → False := by
    intro l c _ hd
    rw [show execOp (fr kd fn t (.inRegion ops (i :: rest) :: k) d rnd).eval o = (do pure (.defer (← resolve (fr kd fn t (.inRegion ops (i :: rest) :: k) d rnd).eval c o.type))) from by simp [execOp, hd]] at h
    simp only [Sem.run_bind] at h
    cases hr : (resolve (fr kd fn t (.inRegion ops (i :: rest) :: k) d rnd).eval c o.type).run P w with
    | ok x w2 => rw [hr] at h; simp at h; obtain ⟨h1, h2⟩ := h; subst h1; cases hv
    | halt x w2 => rw [hr] at h; simp at h
  simp only [fr] at h
  have key : SG P (fr kd fn t (.inRegion ops (i :: rest) :: k) d rnd) cs w = (stepG.apply P true (fr kd fn t (.inRegion ops (i :: rest) :: k) d rnd) cs none (execOp (fr kd fn t (.inRegion ops (i :: rest) :: k) d rnd).eval o) w).bare := by
    simp only [SG, stepG, stepG.exec, stepG.oper, Frame.oper?, fr, ho, Option.map_some, hw, Option.getD_some, if_true]
    all_goals
      cases rnd with
      | none => rfl
      | some l =>
        cases hop : o.op <;> first | rfl | exact (hnd l _ rfl hop).elim
  rw [key]
  cases n <;> first | (cases hv; done) | skip
  · injection hv with hv; subst hv
    simp [GO, stepG.apply, fr, h]
  · injection hv with hv; subst hv
    simp [GO, stepG.apply, fr, h]
/-- an operation that calls -/
theorem m_enter {ops : Array Oper} {i : Nat} {rest : List Nat} {o : Oper} (ho : ops[i]? = some o) (hw : Region.wanted o (yielded ops t) = true) (hd : ∀ c, o.op ≠ .defer c) {f : FuncId} {args : Array Value} {w' : World}
    (h : (execOp (fr kd fn t (.inRegion ops (i :: rest) :: k) d rnd).eval o).run P w = .ok (.enter f args) w') :
    SG P (fr kd fn t (.inRegion ops (i :: rest) :: k) d rnd) cs w = GO (Frame.enter P f args .normal) (fr kd fn t (.inRegion ops (i :: rest) :: k) d rnd :: cs) w' := by
  have key : SG P (fr kd fn t (.inRegion ops (i :: rest) :: k) d rnd) cs w = (stepG.apply P true (fr kd fn t (.inRegion ops (i :: rest) :: k) d rnd) cs none (execOp (fr kd fn t (.inRegion ops (i :: rest) :: k) d rnd).eval o) w).bare := by
    simp only [SG, stepG, stepG.exec, stepG.oper, Frame.oper?, fr, ho, Option.map_some, hw, Option.getD_some, if_true]
    cases rnd with
    | none => rfl
    | some l =>
      cases hop : o.op <;> first | rfl | exact (hd _ hop).elim
  rw [key]
  simp only [fr] at h
  simp [GO, stepG.apply, fr, h]
theorem m_round {ops : Array Oper} {i : Nat} {rest : List Nat} {o : Oper} (ho : ops[i]? = some o) (hw : Region.wanted o (yielded ops t) = true) (hd : ∀ c, o.op ≠ .defer c) {l : Nat} {f : FuncId} {tm : Array Value} {as bd : Code} {w' : World}
    (h : (execOp (fr kd fn t (.inRegion ops (i :: rest) :: k) d rnd).eval o).run P w = .ok (.round l f tm as bd) w') :
    SG P (fr kd fn t (.inRegion ops (i :: rest) :: k) d rnd) cs w = GO (Frame.round l f tm as bd .normal) (fr kd fn t (.inRegion ops (i :: rest) :: k) d rnd :: cs) w' := by
  have key : SG P (fr kd fn t (.inRegion ops (i :: rest) :: k) d rnd) cs w = (stepG.apply P true (fr kd fn t (.inRegion ops (i :: rest) :: k) d rnd) cs none (execOp (fr kd fn t (.inRegion ops (i :: rest) :: k) d rnd).eval o) w).bare := by
    simp only [SG, stepG, stepG.exec, stepG.oper, Frame.oper?, fr, ho, Option.map_some, hw, Option.getD_some, if_true]
    cases rnd with
    | none => rfl
    | some l =>
      cases hop : o.op <;> first | rfl | exact (hd _ hop).elim
  rw [key]
  simp only [fr] at h
  simp [GO, stepG.apply, fr, h]
/-- a loop over a function -/
theorem m_range {f : Operand} {ps : Array Tmp} {as bd : Code} {l : Nat} {mark : List Deferred} {w1 w2 : World} {g : FuncId} {args : Array Value}
    (h1 : (Instr.enterLoop fn t ps as bd rnd).run P w = .ok (l, mark) w1)
    (h2 : (do let d ← resolve (fr kd fn t (.inRangeFunc l :: k) (mark ++ d) rnd).eval { callee := .value f, args := #[.const (.func (.yield l) #[] #[])], argTypes := #[] } 0; invoke d.target d.args : Sem Next).run P w1 = .ok (.enter g args) w2) :
    SG P (fr kd fn t (.code (.rangeFunc f ps as bd) :: k) d rnd) cs w = GO (Frame.enter P g args .normal) (fr kd fn t (.inRangeFunc l :: k) (mark ++ d) rnd :: cs) w2 := by
  simp only [fr] at h2
  simp only [Sem.run_bind] at h2
  simp only [SG, stepG, stepG.exec, fr, Sem.runT_eq, h1, GStep.bare_after, stepG.apply]
  simp only [if_true, Sem.runT_eq, Sem.run_bind, h2, GStep.bare_after]
  rfl
theorem m_ret {c : Frame} {f : Func} {v : Value} (hf : P.funcs[fn]? = some f) (h : (results f t).run P w = .ok v w) : SG P (frR .normal fn t k [] rnd) (c :: cs) w = GO (c.finish v) cs w := by
  simp [SG, GO, stepG, unwind, frR, hf, h, doReturn]
/-- a deferred call returns -/
theorem m_back {c : Frame} {f : Func} {v u : Value} (hf : P.funcs[fn]? = some f) (h : (results f t).run P w = .ok v w) (hm : c.mode = .panicking [{ v := u, recovered := true }]) : SG P (frR .deferred fn t k [] rnd) (c :: cs) w = GO { c with mode := .returning } cs w := by
  simp [SG, GO, stepG, unwind, frR, hf, h, doReturn, hm]
theorem m_back2 {c : Frame} {f : Func} {v : Value} (hf : P.funcs[fn]? = some f) (h : (results f t).run P w = .ok v w) (hm : c.mode = .run ∨ c.mode = .returning ∨ ∃ u, c.mode = .panicking [{ v := u, recovered := false }]) : SG P (frR .deferred fn t k [] rnd) (c :: cs) w = GO c cs w := by
  rcases hm with hm | hm | ⟨u, hm⟩ <;> simp [SG, GO, stepG, unwind, frR, hf, h, doReturn, hm]
theorem m_take {b : Nat} {w' : World} (h : (Instr.takeDeferred b).run P w = .ok [] w') : SG P (frR kd fn t k ({ target := .collected b, args := #[] } :: d) rnd) cs w = GO (frR kd fn t k d rnd) cs w' := by
  simp [SG, GO, stepG, unwind, frR, h]
theorem m_takeP {ch : List PanicEntry} {b : Nat} {w' : World} (h : (Instr.takeDeferred b).run P w = .ok [] w') : SG P (frP ch kd fn t k ({ target := .collected b, args := #[] } :: d) rnd) cs w = GO (frP ch kd fn t k d rnd) cs w' := by
  simp [SG, GO, stepG, unwind, frP, h]
/-- a deferred call is made -/
theorem m_dcall {g : FuncId} {args ca : Array Value} (h : (invoke (.fn (.func g) ca) args).run P w = .ok (.enter g (args ++ ca)) w) : SG P (frR kd fn t k ({ target := .fn (.func g) ca, args := args } :: d) rnd) cs w = GO (Frame.enter P g (args ++ ca) .deferred) (frR kd fn t k d rnd :: cs) w := by
  simp [SG, GO, stepG, unwind, frR, callDeferred, h]
theorem m_dcallP {ch : List PanicEntry} {g : FuncId} {args ca : Array Value} (h : (invoke (.fn (.func g) ca) args).run P w = .ok (.enter g (args ++ ca)) w) : SG P (frP ch kd fn t k ({ target := .fn (.func g) ca, args := args } :: d) rnd) cs w = GO (Frame.enter P g (args ++ ca) .deferred) (frP ch kd fn t k d rnd :: cs) w := by
  simp [SG, GO, stepG, unwind, frP, callDeferred, h]
/-- a panic comes to the caller -/
theorem m_pop {ch : List PanicEntry} {f : Func} {c : Frame} (hf : P.funcs[fn]? = some f) (hm : c.mode = .run) : SG P (frP ch kd fn t k [] rnd) (c :: cs) w = GO { c with mode := .panicking ch } cs w := by
  simp [SG, GO, stepG, unwind, frP, hf, Frame.catches, Frame.raise, hm]
/-- a call is deferred; a panic; the builtin recover -/
theorem key_oper {ops : Array Oper} {i : Nat} {rest : List Nat} {o : Oper} (ho : ops[i]? = some o) (hw : Region.wanted o (yielded ops t) = true) (hd : rnd = none ∨ ∀ c, o.op ≠ .defer c) : SG P (fr kd fn t (.inRegion ops (i :: rest) :: k) d rnd) cs w = (stepG.apply P true (fr kd fn t (.inRegion ops (i :: rest) :: k) d rnd) cs none (execOp (fr kd fn t (.inRegion ops (i :: rest) :: k) d rnd).eval o) w).bare := by
  simp only [SG, stepG, stepG.exec, stepG.oper, Frame.oper?, fr, ho, Option.map_some, hw, Option.getD_some, if_true]
  cases rnd with
  | none => rfl
  | some l =>
    rcases hd with hd | hd
    · cases hd
    · cases hop : o.op <;> first | rfl | exact (hd _ hop).elim
theorem m_defer {ops : Array Oper} {i : Nat} {rest : List Nat} {o : Oper} (ho : ops[i]? = some o) (hw : Region.wanted o (yielded ops t) = true) {dd : Deferred}
    (h : (execOp (fr kd fn t (.inRegion ops (i :: rest) :: k) d none).eval o).run P w = .ok (.defer dd) w) :
    SG P (fr kd fn t (.inRegion ops (i :: rest) :: k) d none) cs w = GO ({ fr kd fn t (.inRegion ops (i :: rest) :: k) d none with defers := dd :: d }.finish undef) cs w := by
  rw [key_oper ho hw (Or.inl rfl)]
  simp only [fr] at h
  simp [GO, stepG.apply, fr, h]
theorem m_panic {ops : Array Oper} {i : Nat} {rest : List Nat} {o : Oper} (ho : ops[i]? = some o) (hw : Region.wanted o (yielded ops t) = true) (hd : ∀ c, o.op ≠ .defer c) {v : Value}
    (h : (execOp (fr kd fn t (.inRegion ops (i :: rest) :: k) d rnd).eval o).run P w = .halt (.panic v) w) :
    SG P (fr kd fn t (.inRegion ops (i :: rest) :: k) d rnd) cs w = GO (frP [{ v := v, recovered := false }] kd fn t (.inRegion ops (i :: rest) :: k) d rnd) cs w := by
  rw [key_oper ho hw (Or.inr hd)]
  simp only [fr] at h
  simp [GO, stepG.apply, fr, frP, h, Frame.raise]
theorem m_recN {ops : Array Oper} {i : Nat} {rest : List Nat} {o : Oper} (ho : ops[i]? = some o) (hw : Region.wanted o (yielded ops t) = true) (hd : ∀ c, o.op ≠ .defer c)
    (h : (execOp (fr kd fn t (.inRegion ops (i :: rest) :: k) d none).eval o).run P w = .ok .recover w) (hn : kd = .normal ∨ (kd = .deferred ∧ ∃ c cs', cs = c :: cs' ∧ (c.mode = .run ∨ c.mode = .returning ∨ ∃ u, c.mode = .panicking [{ v := u, recovered := true }]))) :
    SG P (fr kd fn t (.inRegion ops (i :: rest) :: k) d none) cs w = GO ((fr kd fn t (.inRegion ops (i :: rest) :: k) d none).finish .nilIface) cs w := by
  rw [key_oper ho hw (Or.inr hd)]
  simp only [fr] at h
  rcases hn with rfl | ⟨rfl, c, cs', rfl, hm | hm | ⟨u, hm⟩⟩ <;> simp [GO, stepG.apply, fr, h, tryRecover, *]
theorem m_recV {ops : Array Oper} {i : Nat} {rest : List Nat} {o : Oper} {c : Frame} {u : Value} (ho : ops[i]? = some o) (hw : Region.wanted o (yielded ops t) = true) (hd : ∀ c, o.op ≠ .defer c)
    (h : (execOp (fr .deferred fn t (.inRegion ops (i :: rest) :: k) d none).eval o).run P w = .ok .recover w) (hm : c.mode = .panicking [{ v := u, recovered := false }]) :
    SG P (fr .deferred fn t (.inRegion ops (i :: rest) :: k) d none) (c :: cs) w = GO ((fr .deferred fn t (.inRegion ops (i :: rest) :: k) d none).finish u) ({ c with mode := .panicking [{ v := u, recovered := true }] } :: cs) w := by
  rw [key_oper ho hw (Or.inr hd)]
  simp only [fr] at h
  simp [GO, stepG.apply, fr, h, tryRecover, hm]
end

end
end Go.Proofs.Ytdhnacajgmjmlaa.Ev
