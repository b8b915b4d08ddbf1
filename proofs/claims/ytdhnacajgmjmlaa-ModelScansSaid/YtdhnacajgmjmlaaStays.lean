/- Appending calls to a copy of the calls, in a region that draws; plain laws for ModelStays. -/
import Derived.Test.YtdhnacajgmjmlaaBoth
namespace Go.Proofs.Ytdhnacajgmjmlaa
open Go.RowKit
set_option linter.unusedVariables false
set_option linter.unusedSimpArgs false

theorem infoCall : (Try.prog.info? 58).map (fun i => (i.zero, i.size, i.bytes)) = some (some (.agg #[.int .i64 0, .int .u64 0, .int .u64 0, .int .i64 0, .string ⟨#[]⟩]), 5, 48) := by kernel_rfl
def cc (cs : List CallT) : List Value := cs.flatMap fun c => (callCells c).toList
theorem cc_cons (c : CallT) (cs : List CallT) : cc (c :: cs) = (callCells c).toList ++ cc cs := rfl
theorem cc_append (cs ds : List CallT) : cc (cs ++ ds) = cc cs ++ cc ds := by simp [cc]
theorem cc_length (cs : List CallT) : (cc cs).length = cs.length * 5 := by
  induction cs with
  | nil => rfl
  | cons c cs ih => rw [cc_cons, List.length_append, ih, List.length_cons]; simp [callCells]; omega
theorem cc_one (cs : List CallT) : ∀ v ∈ cc cs, v.oneCell' = true := by
  intro v hv
  simp only [cc, List.mem_flatMap] at hv
  obtain ⟨c, _, hv⟩ := hv
  simp [callCells] at hv
  rcases hv with rfl | rfl | rfl | rfl | rfl <;> rfl
theorem cc_at (cs : List CallT) (i j : Nat) (h : i < cs.length) (hj : j < 5) : (cc cs)[i * 5 + j]? = (callCells cs[i])[j]? := by
  induction cs generalizing i with
  | nil => simp at h
  | cons c cs ih =>
    rw [cc_cons]
    cases i with
    | zero => rw [List.getElem?_append_left (by simp [callCells]; omega)]; simp
    | succ i =>
      rw [List.getElem?_append_right (by simp [callCells]; omega)]
      have : (i + 1) * 5 + j - (callCells c).toList.length = i * 5 + j := by simp [callCells]; omega
      rw [this, ih i (by simpa using h)]
      simp
theorem CallsAt.cells {w : World} {ao : Option Addr} {n cap : Nat} {cs : List CallT} (h : CallsAt w (.slice ao n cap) cs) : n = cs.length ∧ ((ao = none ∧ cap = 0 ∧ cs = []) ∨ ∃ a, ao = some a ∧ ∀ j u, (cc cs)[j]? = some u → w.cell? (a.add j) = some u) := by
  obtain ⟨ao', cap', he, h⟩ := h
  injection he with e1 e2 e3
  subst e1; subst e3
  refine ⟨e2, ?_⟩
  rcases h with ⟨rfl, hn⟩ | ⟨b, off, rfl, hb, hc⟩
  · cases ao with
    | none => exact Or.inl ⟨rfl, hn rfl, rfl⟩
    | some a => exact Or.inr ⟨a, rfl, fun j u hj => by simp [cc] at hj⟩
  · refine Or.inr ⟨_, rfl, fun j u hj => ?_⟩
    have hjl : j < cs.length * 5 := by rw [← cc_length]; exact (List.getElem?_eq_some_iff.1 hj).1
    have e : j = j / 5 * 5 + j % 5 := by omega
    have h1 := cc_at cs (j / 5) (j % 5) (by omega) (by omega)
    rw [← e, hj] at h1
    have h2 := hc (j / 5) (by omega) (j % 5) (by omega)
    have e2 : (⟨b, off, none⟩ : Addr).add j = ⟨b, off + j / 5 * 5 + j % 5, none⟩ := by unfold Addr.add; split <;> simp <;> omega
    rw [e2, h2, ← h1]
theorem CallsAt.of_row {w : World} {base : Nat} {v : Value} {cs : List CallT} (h : w.ownsRow base 58 5 v cs.length (cc cs)) : CallsAt w v cs := by
  rcases h.2 with ⟨rfl, h0⟩ | ⟨g, cap, cur, rfl, _, hg, _⟩
  · obtain rfl : cs = [] := List.eq_nil_of_length_eq_zero h0
    exact ⟨none, 0, rfl, Or.inl ⟨rfl, fun _ => rfl⟩⟩
  · refine ⟨_, cap, rfl, Or.inr ⟨g, 0, rfl, Blk.lt (t := 58) hg, fun i hi j hj => ?_⟩⟩
    have h1 : i * 5 + j < (cc cs).length := by rw [cc_length]; omega
    rw [Nat.zero_add, h.cellAt (i * 5 + j) (by omega), cc_at cs i j hi hj]

theorem step_append_own {P : Program} {ops : Array Oper} {o : Oper} {a : Act} {w : World} {K : Act → World → Prop} {Q : Exit → Act → World → Prop} {E : Prop}
    (hg : o.guard = none) (s x : Operand) (t : TypeId) (hop : o.op = Op.call { callee := Callee.builtin Builtin.append, args := #[s, x], argTypes := #[t, t] })
    (base : Nat) (e : TypeId) (i : TypeInfo) (z : Value) (size bytes : Nat) (ht : P.underlying t = some (.slice e)) (hi : P.info? e = some i) (hz : i.zero = some z)
    (hsize : i.size = size) (hby : i.bytes = bytes) (hzs : z.cells.size = size) (hsz : 0 < size)
    (v : Value) (n : Nat) (xs : List Value) (hs : a.eval s = v) (hown : w.ownsRow base e size v n xs)
    (ad : Addr) (m c : Nat) (news : List Value) (hx : a.eval x = .slice (some ad) m c) (hl : news.length = m * size) (hnews : ∀ j u, news[j]? = some u → w.cell? (ad.add j) = some u) (h1 : ∀ u ∈ news, u.oneCell' = true)
    (h63 : n + m ≤ maxLen) (hbytes : (n + m) * bytes ≤ 140737488355328) (hbase : base ≤ w.heap.size)
    (h : ∀ v' w', w'.ownsRow base e size v' (n + m) (xs ++ news) → w.grownBy w' v.ownBlock → (v'.ownBlock = v.ownBlock ∨ v'.ownBlock = some w.heap.size) → K (a.put o.dst v') w') :
    if Region.wanted o (yielded ops a.tmps) = true then Oper.wp P o a w K Q else E := by
  obtain ⟨v', w', hr, h2, h3, h4, h5⟩ := run_append_own_at (P := P) w base t o.type e i z size bytes ht hi hz hsize hby hzs hsz v n xs hown ad m c news hl hnews h1 h63 hbytes hbase
  exact step_append_runI hg s x t t hop v _ hs hx hr (h v' w' h2 h3 h5)
theorem step_append_none {P : Program} {ops : Array Oper} {o : Oper} {a : Act} {w : World} {K : Act → World → Prop} {Q : Exit → Act → World → Prop} {E : Prop}
    (hg : o.guard = none) (s x : Operand) (t : TypeId) (hop : o.op = Op.call { callee := Callee.builtin Builtin.append, args := #[s, x], argTypes := #[t, t] })
    (base : Nat) (e : TypeId) (i : TypeInfo) (size : Nat) (ht : P.underlying t = some (.slice e)) (hi : P.info? e = some i)
    (v : Value) (n : Nat) (xs : List Value) (hs : a.eval s = v) (hown : w.ownsRow base e size v n xs) (hx : a.eval x = .slice none 0 0) (h : K (a.put o.dst v) w) :
    if Region.wanted o (yielded ops a.tmps) = true then Oper.wp P o a w K Q else E :=
  step_append_runI hg s x t t hop v _ hs hx (run_append_owned_none (P := P) (w := w) base t o.type e i size ht hi v n xs hown) h

theorem step_call {P : Program} {ops : Array Oper} {o : Oper} {a : Act} {w : World} {K : Act → World → Prop} {Q : Exit → Act → World → Prop} {E : Prop}
    (hg : o.guard = none) (f : Nat) (xs : Array Operand) (ts : Array TypeId) (hop : o.op = Op.call { callee := Callee.value (Operand.func f), args := xs, argTypes := ts }) (vals : Array Value) (hv : xs.map a.eval = vals)
    (hrun : (execOp a.eval o).run P w = .ok (.enter f vals) w) {R : Ending → World → Prop} (hc : Calls P f vals w R) (h : ∀ e w', R e w' → ∃ v, e = .returned v ∧ K (a.put o.dst v) w') :
    if Region.wanted o (yielded ops a.tmps) = true then Oper.wp P o a w K Q else E := by
  have hw : Region.wanted o (yielded ops a.tmps) = true := by simp [Region.wanted, hg]
  rw [if_pos hw]
  unfold Oper.wp
  rw [hrun, Oper.upon_enter]
  refine hc.mono fun e w' hr => ?_
  obtain ⟨v, rfl, hk⟩ := h e w' hr
  exact hk
theorem get_of_mem {k : Int} {s : ByteArray} {ps : PairL} (hr : Rises ps) (h : (k, s) ∈ ps) : getM k ps = s ∧ errGet k ps = 0 := by
  have hb := (placeB_iff hr).2 ⟨s, h⟩
  have hg := getM_mem hb
  have := rises_inj hr hg h rfl
  exact ⟨by injection this, by simp [errGet, hb]⟩
theorem get_kept {op key hi lim : Int} {s : ByteArray} {ps : PairL} (hr : Rises ps) {k : Int} {x : ByteArray} (h : (k, x) ∈ ps) (hk : k ≠ key) : getM k (doN op key hi lim s ps) = x ∧ errGet k (doN op key hi lim s ps) = 0 := by
  unfold doN
  split
  · exact get_of_mem (putM_rises hr) ((mem_putM hr _).2 (Or.inr ⟨h, hk⟩))
  · split
    · exact get_of_mem (delM_rises hr) ((mem_delM hr _).2 ⟨h, hk⟩)
    · exact get_of_mem hr h
theorem doN_same {op key hi lim : Int} {s : ByteArray} {ps : PairL} (h : doC op key hi lim s.size ps ≠ 0 ∨ op = 2 ∨ op = 4) : doN op key hi lim s ps = ps := by
  by_cases h0 : mayZ op key hi lim s.size = 0
  · unfold doN
    by_cases h1 : op = 1
    · subst h1
      rcases h with h | h | h
      · exact absurd (do_put ps h0).1 h
      · omega
      · omega
    · rw [if_neg (fun x => h1 x.2)]
      by_cases h3 : op = 3
      · subst h3
        rw [if_pos ⟨h0, rfl⟩]
        rcases h with h | h | h
        · rw [(do_del ps h0).1] at h
          unfold errGet at h
          split at h
          · omega
          · rename_i hb; unfold delM; rw [if_neg hb]
        · omega
        · omega
      · rw [if_neg (fun x => h3 x.2)]
  · exact (do_bad ps h0).2.2.2

end Go.Proofs.Ytdhnacajgmjmlaa
