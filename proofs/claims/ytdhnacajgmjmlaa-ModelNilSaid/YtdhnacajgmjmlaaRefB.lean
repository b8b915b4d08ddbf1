/- The document's map of layer 22: its list, Find; what it stands for. -/
import Derived.Test.YtdhnacajgmjmlaaRefA
namespace Go.Proofs.Ytdhnacajgmjmlaa
open Go.RowKit
set_option linter.unusedVariables false

/-- what was put, or taken out -/
abbrev RL := List (Int × ByteArray × Bool)
def rc (L : RL) : List Value := L.flatMap fun p => [.int .u64 p.1, .string p.2.1, .bool p.2.2]
theorem rc_nil : rc [] = [] := rfl
theorem rc_cons (p : Int × ByteArray × Bool) (L : RL) : rc (p :: L) = .int .u64 p.1 :: .string p.2.1 :: .bool p.2.2 :: rc L := rfl
theorem rc_append (L M : RL) : rc (L ++ M) = rc L ++ rc M := by simp [rc]
theorem rc_length (L : RL) : (rc L).length = L.length * 3 := by
  induction L with
  | nil => rfl
  | cons p L ih => rw [rc_cons]; simp [ih]; omega
theorem rc_one (L : RL) : ∀ v ∈ rc L, v.oneCell' = true := by
  intro v hv
  unfold rc at hv
  rw [List.mem_flatMap] at hv
  obtain ⟨p, _, hv⟩ := hv
  simp at hv
  rcases hv with rfl | rfl | rfl <;> rfl
theorem rc_at (L : RL) (k : Nat) (h : k < L.length) : (rc L)[k * 3]? = some (.int .u64 (L[k]'h).1) ∧ (rc L)[k * 3 + 1]? = some (.string (L[k]'h).2.1) ∧ (rc L)[k * 3 + 2]? = some (.bool (L[k]'h).2.2) := by
  induction L generalizing k with
  | nil => simp at h
  | cons p L ih =>
    cases k with
    | zero => rw [rc_cons]; simp
    | succ k =>
      have := ih k (by simpa using h)
      rw [rc_cons, show (k + 1) * 3 = k * 3 + 1 + 1 + 1 by omega]
      simpa [show k * 3 + 1 + 1 + 1 + 1 = (k * 3 + 1) + 1 + 1 + 1 by omega, show k * 3 + 1 + 1 + 1 + 2 = (k * 3 + 2) + 1 + 1 + 1 by omega] using this

theorem infoPut : (Try.prog.info? 123).map (fun i => (i.zero, i.size, i.bytes)) = some (some (.agg #[.int .u64 0, .string ⟨#[]⟩, .bool false]), 3, 32) := by kernel_rfl

structure RefIs (w : World) (r : Nat) (v : Value) (L : RL) : Prop where
  obj : Blk w r 50 #[v]
  row : w.ownsRow 0 123 3 v L.length (rc L)
  few : L.length ≤ 1000000
theorem RefIs.ne_ {w : World} {m : Nat} {v : Value} {ps : RL} (h : RefIs w m v ps) : v.ownBlock ≠ some m := by
  rcases h.row.2 with ⟨rfl, _⟩ | ⟨g, cap, cur, rfl, _, hg, _⟩
  · simp [Value.ownBlock]
  · intro he
    have : g = m := by simpa [Value.ownBlock] using he
    subst this
    exact Blk.ne_ (t := 123) hg h.obj (by decide) rfl
theorem RefIs.only {f : List Nat} {w w' : World} {m : Nat} {v : Value} {ps : RL} (h : RefIs w m v ps) (ho : Only f w w') (hm : m ∉ f) (hv : ∀ k, v.ownBlock = some k → k ∉ f) : RefIs w' m v ps :=
  ⟨ho.blk h.obj hm, ho.own h.row hv, h.few⟩
theorem RefIs.bel {w w' : World} {m : Nat} {v : Value} {ps : RL} (h : RefIs w m v ps) (hb : Below w.heap.size w w') : RefIs w' m v ps :=
  h.only (Only.of_below hb []) (by simp) (by simp)
theorem RefIs.own_lt {w : World} {m : Nat} {v : Value} {ps : RL} (h : RefIs w m v ps) : ∀ k, v.ownBlock = some k → k < w.heap.size := fun k hk => (row_lt h.row k hk).2
theorem RefIs.foot_lt {w : World} {m : Nat} {v : Value} {ps : RL} (h : RefIs w m v ps) : ∀ k, k ∈ foot m v → k < w.heap.size := by
  intro k hk
  simp only [foot, List.mem_cons, Option.mem_toList] at hk
  rcases hk with rfl | hk
  · exact h.obj.lt
  · exact h.own_lt k hk

/-- the place of the last one of a key among the first i, if it is not gone -/
def findN (k : Int) (L : RL) : Nat → Int
  | 0 => -1
  | i + 1 => match L[i]? with | some p => if p.1 == k then (if p.2.2 then -1 else (i : Int)) else findN k L i | none => findN k L i
def findZ (k : Int) (L : RL) : Int := findN k L L.length
theorem findN_hit {k : Int} {L : RL} {i : Nat} (h : i < L.length) (hk : (L[i].1 == k) = true) : findN k L (i + 1) = if L[i].2.2 then -1 else (i : Int) := by
  rw [findN, List.getElem?_eq_getElem h]; simp [hk]
theorem findN_miss {k : Int} {L : RL} {i : Nat} (h : i < L.length) (hk : (L[i].1 == k) = false) : findN k L (i + 1) = findN k L i := by
  rw [findN, List.getElem?_eq_getElem h]; simp only [hk]; rfl

theorem rrow_at {w : World} {g n cap base : Nat} {L : RL} (h : w.ownsRow base 123 3 (.slice (some ⟨g, 0, none⟩) n cap) n (rc L)) (hl : L.length = n) (k : Nat) (hk : k < L.length) :
    w.cell? ⟨g, k * 3, none⟩ = some (.int .u64 L[k].1) ∧ w.cell? ⟨g, k * 3 + 1, none⟩ = some (.string L[k].2.1) ∧ w.cell? ⟨g, k * 3 + 2, none⟩ = some (.bool L[k].2.2) := by
  have := rc_at L k hk
  exact ⟨(h.cellAt (k * 3) (by omega)).trans this.1, (h.cellAt (k * 3 + 1) (by omega)).trans this.2.1, (h.cellAt (k * 3 + 2) (by omega)).trans this.2.2⟩

set_option maxRecDepth 100000 in
set_option maxHeartbeats 1000000 in
theorem Find_some (r g n cap : Nat) (key : Int) (L : RL) (w : World) (h : RefIs w r (.slice (some ⟨g, 0, none⟩) n cap) L) (hl : L.length = n) :
    Calls Try.prog 59 #[.pointer (some ⟨r, 0, none⟩), .int .u64 key] w fun e w' => e = .returned (.int .i64 (findZ key L)) ∧ w = w' := by
  have hn := h.few
  have c0 : w.cell? ⟨r, 0, none⟩ = some (.slice (some ⟨g, 0, none⟩) n cap) := h.obj.cell 0
  have hrow := h.row
  rw [hl] at hrow
  have HR := hid hrow
  have hZ := hid (show findZ key L = findN key L n by unfold findZ; rw [hl])
  have HL := hid hl
  clear h hrow
  rw [hl] at hn
  have i0 : IntKind.i64.wrap ((n : Int) - 1) = (n : Int) - 1 := IntWalk.i64_in _ (by omega)
  go_enter Try.func59, Try.ntmps59
  go_wp2_with fail
  go_loopw [5] (fun p wr => ∃ i : Nat, i ≤ n ∧ p = .int .i64 ((i : Int) - 1) ∧ wr = w ∧ Hid (findN key L n = findN key L i)) (fun p _ => (intOf p + 1).toNat)
  case atStart => exact ⟨n, by omega, rfl, rfl, rfl⟩
  case round =>
    obtain ⟨i, hi, rfl, rfl, hF⟩ := hrel
    clear i0
    cases i with
    | zero =>
      have hz := hid (show findZ key L = -1 from hZ.out.trans hF.out)
      clear hF
      go_wp2
      go_ret
      exact ⟨by rw [hz.out]; rfl, rfl⟩
    | succ i =>
      have hil : i < L.length := by have := HL.out; omega
      obtain ⟨x0, x1, x2⟩ := rrow_at HR.out HL.out i hil
      have e1 : ((i + 1 : Nat) : Int) - 1 = (i : Int) := by omega
      rw [e1]
      have i1 : (0 : Int) ≤ (i : Int) := by omega
      have i2 : (i : Int) < (n : Int) := by omega
      cases hk : ((L[i]'hil).1 == key) with
      | true =>
        have hh := findN_hit hil hk
        cases hg : (L[i]'hil).2.2 with
        | true =>
          have hz := hid (show findZ key L = -1 by rw [hZ.out, hF.out, hh, hg]; rfl)
          rw [hg] at x2
          clear hF hh hg e1
          go_wp2
          go_ret
          exact ⟨by rw [hz.out]; rfl, rfl⟩
        | false =>
          have hz := hid (show findZ key L = (i : Int) by rw [hZ.out, hF.out, hh, hg]; rfl)
          rw [hg] at x2
          clear hF hh hg e1
          go_wp2
          go_ret
          exact ⟨by rw [hz.out]; rfl, rfl⟩
      | false =>
        have hF' : Hid (findN key L n = findN key L i) := hF.out.trans (findN_miss hil hk)
        have i3 : IntKind.i64.wrap ((i : Int) - 1) = (i : Int) - 1 := IntWalk.i64_in _ (by omega)
        clear hF e1
        go_wp2
        go_roundw
        case rel => exact ⟨i, by omega, rfl, trivial, hF'⟩
        case measure => simp [intOf]

set_option maxRecDepth 100000 in
set_option maxHeartbeats 1000000 in
theorem Find_z (r : Nat) (v : Value) (key : Int) (L : RL) (w : World) (h : RefIs w r v L) :
    Calls Try.prog 59 #[.pointer (some ⟨r, 0, none⟩), .int .u64 key] w fun e w' => e = .returned (.int .i64 (findZ key L)) ∧ w = w' := by
  rcases h.row.2 with ⟨rfl, h0⟩ | ⟨g, cap, cur, rfl, _⟩
  · have : L = [] := List.eq_nil_of_length_eq_zero h0
    subst this
    have c0 : w.cell? ⟨r, 0, none⟩ = some (.slice none 0 0) := h.obj.cell 0
    clear h h0
    rw [show findZ key [] = -1 from rfl]
    go_enter Try.func59, Try.ntmps59
    go_wp2_with fail
    go_loopw [5] (fun p wr => p = .int .i64 (-1) ∧ wr = w) (fun _ _ => 0)
    case atStart => exact ⟨rfl, rfl⟩
    case round =>
      obtain ⟨rfl, rfl⟩ := hrel
      go_wp2
      go_ret
      exact ⟨rfl, rfl⟩
  · exact Find_some r g L.length cap key L w h rfl

end Go.Proofs.Ytdhnacajgmjmlaa
