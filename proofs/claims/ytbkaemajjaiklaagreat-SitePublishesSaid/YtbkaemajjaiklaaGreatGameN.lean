/- SlabPlays: a game: a memory, blocks, the document's, turns that go on; where all lies. -/
import Derived.Test.YtbkaemajjaiklaaGreatPlAA
import Derived.Test.YtbkaemajjaiklaaGreatPlN
import Derived.Test.YtbkaemajjaiklaaGreatPmW
import Derived.Test.YtbkaemajjaiklaaGreatAlikeN
import Derived.Test.YtbkaemajjaiklaaGreatSame
import Derived.StillTail

namespace Go.Proofs.YtbkaemajjaiklaaGreat
open Go.RowKit
set_option linter.unusedVariables false
set_option linter.unusedSimpArgs false

/-- a turn that goes on: its object, client, block, what that becomes, how many steps it did -/
structure TR where
  t : Nat
  cl : Nat
  a : Int
  tb : Int
  ph : Nat
def trC (x : TR) : List Value := [.pointer (some ⟨x.t, 0, none⟩), .int .u64 x.a, .int .i64 x.tb, .int .i64 (x.ph : Int)]
/-- which blocks play which part -/
def gF (gb m : Nat) (Q : MB) (M : MemS) (B : SB) (V : Nat → Value) (wd : Nat) (vC vL vT : Value) (T : List TR) (p : Nat) : List Nat :=
  if p = 0 then [gb] else if p = 1 then footM m Q M else if p = 2 then foot B V else if p = 3 then wd :: (vC.ownBlock.toList ++ vL.ownBlock.toList) else if p = 4 then vT.ownBlock.toList else if p = 5 then T.map (·.t) else []
/-- no block plays two parts, all are there -/
structure Sep (w : World) (F : Nat → List Nat) : Prop where
  one : ∀ p q k, k ∈ F p → k ∈ F q → p = q
  lt : ∀ p k, k ∈ F p → k < w.heap.size
/-- one part turned -/
theorem Sep.turn {w w' : World} {F F' : Nat → List Nat} (h : Sep w F) (p : Nat) (hs : w.heap.size ≤ w'.heap.size) (ho : ∀ q, q ≠ p → ∀ k ∈ F' q, k ∈ F q) (hp : ∀ k ∈ F' p, (k ∈ F p ∨ w.heap.size ≤ k) ∧ k < w'.heap.size) : Sep w' F' := by
  refine ⟨fun a b k ha hb => ?_, fun a k ha => ?_⟩
  · by_cases ea : a = p
    · by_cases eb : b = p
      · rw [ea, eb]
      · have h1 := ho b eb k hb
        rw [ea] at ha
        rcases (hp k ha).1 with h2 | h2
        · rw [ea]; exact h.one _ _ k h2 h1
        · have := h.lt b k h1; omega
    · have h1 := ho a ea k ha
      by_cases eb : b = p
      · rw [eb] at hb
        rcases (hp k hb).1 with h2 | h2
        · rw [eb]; exact h.one _ _ k h1 h2
        · have := h.lt a k h1; omega
      · exact h.one _ _ k h1 (ho b eb k hb)
  · by_cases ea : a = p
    · rw [ea] at ha; exact (hp k ha).2
    · have := h.lt a k (ho a ea k ha); omega
theorem Sep.mono {w w' : World} {F : Nat → List Nat} (h : Sep w F) (hs : w.heap.size ≤ w'.heap.size) : Sep w' F := ⟨h.one, fun p k hk => Nat.lt_of_lt_of_le (h.lt p k hk) hs⟩
/-- what a game says, plainly -/
structure GA where
  ma : MA
  A : SA
  cs : List Int
  ls : List (Int × Int)
  T : List TR
/-- a turn fits what its block is -/
def TurnFits (ls : List (Int × Int)) (x : TR) : Prop := x.ph < 4 ∧ x.cl ≤ 64 ∧ (x.tb = 2 ∧ isGet ls x.a = 4 ∨ x.tb = 0 ∧ isGet ls x.a = 3)
/-- where a game lies -/
structure GL where
  gb : Nat
  m : Nat
  Q : MB
  M : MemS
  B : SB
  V : Nat → Value
  wd : Nat
  vC : Value
  vL : Value
  vT : Value
def GL.F (l : GL) (T : List TR) : Nat → List Nat := gF l.gb l.m l.Q l.M l.B l.V l.wd l.vC l.vL l.vT T
structure GameIs (w : World) (N n K : Nat) (l : GL) (g : GA) : Prop where
  gblk : Blk w l.gb 55 #[.pointer (some ⟨l.m, 0, none⟩), .pointer (some ⟨l.B.s, 0, none⟩), .pointer (some ⟨l.wd, 0, none⟩), l.vT]
  work : Work w N l.B l.V g.A n l.m l.Q l.M K
  ma : absM l.M = g.ma
  wo : WorldIs w N l.wd ((8 * l.M.view.length : Nat) : Int) g.cs g.ls l.vC l.vL
  al : Alike g.A n g.cs g.ls
  hp : ∀ d, HeapL (g.A.fr d)
  bits : ∀ i, ∃ b : Nat, b < 18446744073709551616 ∧ (g.A.hd.getD i (0, 0)).2 = (b : Int)
  row : w.ownsRow N 179 4 l.vT g.T.length (g.T.flatMap trC)
  ts : ∀ x ∈ g.T, Blk w x.t 162 (turnC l.B.s l.m x.t x.cl x.a x.tb x.ph)
  fits : ∀ x ∈ g.T, TurnFits g.ls x
  ta : (g.T.map (·.a)).Nodup
  tt : (g.T.map (·.t)).Nodup
  sep : Sep w (l.F g.T)
  n6 : n ≤ 6
  gN : N ≤ l.gb
  loM : ∀ k ∈ footM l.m l.Q l.M, N ≤ k
  loT : ∀ x ∈ g.T, N ≤ x.t
theorem GameIs.bel {w w' : World} {N n K : Nat} {l : GL} {g : GA} (h : GameIs w N n K l g) (hb : Below w.heap.size w w') : GameIs w' N n K l g := by
  have ho : Only [] w w' := Only.of_below hb []
  exact ⟨ho.blk h.gblk (by simp), h.work.pre ho, h.ma, h.wo.bel hb, h.al, h.hp, h.bits, ho.own h.row (by simp), fun x hx => ho.blk (h.ts x hx) (by simp), h.fits, h.ta, h.tt, h.sep.mono ho.size, h.n6, h.gN, h.loM, h.loT⟩
/-- both say the same, in one memory -/
theorem GameIs.both {w : World} {N n K : Nat} {l : GL} {g : GA} (h : GameIs w N n K l g) : BothS w N l.B l.V ((8 * l.M.view.length : Nat) : Int) g.A n N l.wd g.cs g.ls l.vC l.vL := by
  have h1 := h.al.few h.n6
  have h2 : g.ls.length ≤ 50000 := by
    have hu := h.al.ul
    have := len_of_sub (g.ls.map (fun p : Int × Int => p.1)) hu (fun x hx => by
      obtain ⟨p, hp, rfl⟩ := List.mem_map.1 hx
      obtain ⟨_, _, i, j, c, h2, h3, h4, h5, _, h6⟩ := h.al.blk p hp
      have := h.n6
      exact ⟨i, c, j, by omega, h3, h6, h4, h5⟩)
    rw [List.length_map] at this
    omega
  exact ⟨h.work.sl, h.wo, h.al, h.work.hl, h.work.hn, h1.1, h2, h1.2⟩

end Go.Proofs.YtbkaemajjaiklaaGreat

/- SlabPlays: which block an act is of. -/
namespace Go.Proofs.YtbkaemajjaiklaaGreat
open Go.RowKit
set_option linter.unusedVariables false
set_option linter.unusedSimpArgs false

/-- which block an act is of -/
def blkG (ls : List (Int × Int)) (nn aa : Int) : Int := if 0 ≤ nn ∧ nn < (ls.length : Int) then (ls.getD nn.toNat (0, 0)).1 else aa
end Go.Proofs.YtbkaemajjaiklaaGreat

/- SlabPlays: a turn begun is told of. -/
namespace Go.Proofs.YtbkaemajjaiklaaGreat
open Go.RowKit
set_option linter.unusedVariables false
set_option linter.unusedSimpArgs false

attribute [local go_sem ↓ high] append_shut2
attribute [local go_sem] appM2_run

/-- a turn told of: the game behind it -/
structure StartOut (w : World) (N gb wd : Nat) (size : Int) (cs : List Int) (ls : List (Int × Int)) (v0 v1 vC vT : Value) (T : List TR) (x : TR) (now : Int) (w' : World) (vL' vT' : Value) : Prop where
  gblk : Blk w' gb 55 #[v0, v1, .pointer (some ⟨wd, 0, none⟩), vT']
  wo : WorldIs w' N wd size cs (setW ls x.a now) vC vL'
  row : w'.ownsRow N 179 4 vT' (T ++ [x]).length ((T ++ [x]).flatMap trC)
  only : Only (gb :: wd :: vT.ownBlock.toList) w w'
  nl : ∀ k, vL'.ownBlock = some k → w.heap.size ≤ k
  nt : ∀ k, vT'.ownBlock = some k → vT.ownBlock = some k ∨ w.heap.size ≤ k ∧ vL'.ownBlock ≠ some k

end Go.Proofs.YtbkaemajjaiklaaGreat

/- SlabPlays: the game behind a turn begun. -/
namespace Go.Proofs.YtbkaemajjaiklaaGreat
open Go.RowKit
set_option linter.unusedVariables false
set_option linter.unusedSimpArgs false

theorem gF_mem {gb m : Nat} {Q : MB} {M : MemS} {B : SB} {V : Nat → Value} {wd : Nat} {vC vL vT : Value} {T : List TR} {p k : Nat} :
    k ∈ gF gb m Q M B V wd vC vL vT T p ↔ (p = 0 ∧ k = gb) ∨ (p = 1 ∧ k ∈ footM m Q M) ∨ (p = 2 ∧ k ∈ foot B V) ∨ (p = 3 ∧ (k = wd ∨ vC.ownBlock = some k ∨ vL.ownBlock = some k)) ∨ (p = 4 ∧ vT.ownBlock = some k) ∨ (p = 5 ∧ ∃ x ∈ T, x.t = k) := by
  unfold gF
  by_cases h0 : p = 0
  · subst h0; simp
  by_cases h1 : p = 1
  · subst h1; simp
  by_cases h2 : p = 2
  · subst h2; simp
  by_cases h3 : p = 3
  · subst h3; simp
  by_cases h4 : p = 4
  · subst h4; simp
  by_cases h5 : p = 5
  · subst h5; simp
  simp [h0, h1, h2, h3, h4, h5]
/-- parts turned: what is new lies in one part alone -/
theorem Sep.turns {w w' : World} {F F' : Nat → List Nat} (h : Sep w F) (hs : w.heap.size ≤ w'.heap.size) (hp : ∀ p, ∀ k ∈ F' p, (k ∈ F p ∨ w.heap.size ≤ k) ∧ k < w'.heap.size) (hn : ∀ p q k, w.heap.size ≤ k → k ∈ F' p → k ∈ F' q → p = q) : Sep w' F' := by
  refine ⟨fun a b k ha hb => ?_, fun a k ha => (hp a k ha).2⟩
  rcases (hp a k ha).1 with h1 | h1
  · rcases (hp b k hb).1 with h2 | h2
    · exact h.one a b k h1 h2
    · have := h.lt a k h1; omega
  · exact hn a b k h1 ha hb
section
variable {w : World} {N n K : Nat} {l : GL} {g : GA}
theorem GameIs.lo (h : GameIs w N n K l g) : ∀ p, ∀ k ∈ l.F g.T p, N ≤ k := by
  intro p k hk
  rcases gF_mem.1 hk with ⟨_, rfl⟩ | ⟨_, h1⟩ | ⟨_, h1⟩ | ⟨_, h1⟩ | ⟨_, h1⟩ | ⟨_, y, h1, rfl⟩
  · exact h.gN
  · exact h.loM k h1
  · obtain ⟨i, hi⟩ := foot_mem.1 h1
    exact h.work.sl.lo i k hi
  · rcases h1 with rfl | h1 | h1
    · exact h.wo.lo
    · exact own_base h.wo.rc k h1
    · exact own_base h.wo.rl k h1
  · exact own_base h.row k h1
  · exact h.loT y h1
theorem GameIs.no {p q k : Nat} (h : GameIs w N n K l g) (hp : k ∈ l.F g.T p) (hne : p ≠ q) : k ∉ l.F g.T q := fun hq => hne (h.sep.one p q k hp hq)
theorem GameIs.in0 (h : GameIs w N n K l g) : l.gb ∈ l.F g.T 0 := gF_mem.2 (Or.inl ⟨rfl, rfl⟩)
theorem GameIs.in1 (h : GameIs w N n K l g) {k : Nat} (hk : k ∈ footM l.m l.Q l.M) : k ∈ l.F g.T 1 := gF_mem.2 (Or.inr (Or.inl ⟨rfl, hk⟩))
theorem GameIs.in2 (h : GameIs w N n K l g) {k : Nat} (hk : k ∈ foot l.B l.V) : k ∈ l.F g.T 2 := gF_mem.2 (Or.inr (Or.inr (Or.inl ⟨rfl, hk⟩)))
theorem GameIs.in3 (h : GameIs w N n K l g) : l.wd ∈ l.F g.T 3 := gF_mem.2 (Or.inr (Or.inr (Or.inr (Or.inl ⟨rfl, Or.inl rfl⟩))))
theorem GameIs.in3C (h : GameIs w N n K l g) {k : Nat} (hk : l.vC.ownBlock = some k) : k ∈ l.F g.T 3 := gF_mem.2 (Or.inr (Or.inr (Or.inr (Or.inl ⟨rfl, Or.inr (Or.inl hk)⟩))))
theorem GameIs.in3L (h : GameIs w N n K l g) {k : Nat} (hk : l.vL.ownBlock = some k) : k ∈ l.F g.T 3 := gF_mem.2 (Or.inr (Or.inr (Or.inr (Or.inl ⟨rfl, Or.inr (Or.inr hk)⟩))))
theorem GameIs.in4 (h : GameIs w N n K l g) {k : Nat} (hk : l.vT.ownBlock = some k) : k ∈ l.F g.T 4 := gF_mem.2 (Or.inr (Or.inr (Or.inr (Or.inr (Or.inl ⟨rfl, hk⟩)))))
theorem GameIs.in5 (h : GameIs w N n K l g) {x : TR} (hx : x ∈ g.T) : x.t ∈ l.F g.T 5 := gF_mem.2 (Or.inr (Or.inr (Or.inr (Or.inr (Or.inr ⟨rfl, x, hx, rfl⟩)))))
/-- a block of one part is none of another's -/
theorem GameIs.ne {p q j k : Nat} (h : GameIs w N n K l g) (hj : j ∈ l.F g.T p) (hk : k ∈ l.F g.T q) (hne : p ≠ q) : j ≠ k := fun e => hne (h.sep.one p q j hj (e ▸ hk))
end

/-- a turn begun, and told of -/
theorem GameIs.begun {w w1 w2 : World} {N n K : Nat} {l : GL} {g : GA} (h : GameIs w N n K l g) (x : TR) (was now : Int) (hx0 : x.ph = 0) (hcl : x.cl ≤ 64) (hwas : isGet g.ls x.a = was) (hk : was = 1 ∧ now = 4 ∧ x.tb = 2 ∨ was = 2 ∧ now = 3 ∧ x.tb = 0)
    (ht : TurnOut w N l.B l.V ((8 * l.M.view.length : Nat) : Int) g.A l.m x.cl x.a now x.tb x.t w1) {vL' vT' : Value}
    (hs : StartOut w1 N l.gb l.wd ((8 * l.M.view.length : Nat) : Int) g.cs g.ls (.pointer (some ⟨l.m, 0, none⟩)) (.pointer (some ⟨l.B.s, 0, none⟩)) l.vC l.vT g.T x now w2 vL' vT') :
    GameIs w2 N n K { l with vL := vL', vT := vT' } { g with A := { g.A with is := isSet g.A.is x.a now }, ls := setW g.ls x.a now, T := g.T ++ [x] } := by
  have hbm : l.B.m ∈ foot l.B l.V := foot_mem.2 ⟨2, role_m _ _⟩
  have hm01 : Moved l.B l.V l.V w w1 := Moved.putM ht.only
  have hw1 : Work w1 N l.B l.V { g.A with is := isSet g.A.is x.a now } n l.m l.Q l.M K := h.work.moved ht.sl hm01 rfl
  have out : ∀ p k, k ∈ l.F g.T p → p ≠ 0 → p ≠ 3 → p ≠ 4 → k ∉ l.gb :: l.wd :: l.vT.ownBlock.toList := by
    intro p k hk h0 h3 h4 hm
    rcases List.mem_cons.1 hm with rfl | hm
    · exact h0 (h.sep.one _ _ _ hk h.in0)
    · rcases List.mem_cons.1 hm with rfl | hm
      · exact h3 (h.sep.one _ _ _ hk h.in3)
      · exact h4 (h.sep.one _ _ _ hk (h.in4 (by simpa using hm)))
  have hw2 : Work w2 N l.B l.V { g.A with is := isSet g.A.is x.a now } n l.m l.Q l.M K := hw1.only hs.only (fun k hk => out 1 k (h.in1 hk) (by decide) (by decide) (by decide)) (fun k hk => out 2 k (h.in2 hk) (by decide) (by decide) (by decide))
  have hne : isGet g.ls x.a ≠ 0 := by rw [hwas]; rcases hk with ⟨rfl, _⟩ | ⟨rfl, _⟩ <;> decide
  have hnow : 1 ≤ now ∧ now ≤ 4 := by rcases hk with ⟨_, rfl, _⟩ | ⟨_, rfl, _⟩ <;> decide
  have hold : ∀ y ∈ g.T, y.a ≠ x.a := by
    intro y hy e
    have := (h.fits y hy).2.2
    rw [e, hwas] at this
    rcases this with ⟨_, h1⟩ | ⟨_, h1⟩ <;> rcases hk with ⟨h2, _⟩ | ⟨h2, _⟩ <;> omega
  have hnewt : ∀ y ∈ g.T, y.t ≠ x.t := fun y hy e => by
    have h1 := h.sep.lt 5 y.t (h.in5 hy)
    have h2 := ht.new
    omega
  have hs1 := ht.only.size
  have hs2 := hs.only.size
  refine ⟨hs.gblk, hw2, h.ma, hs.wo, h.al.setTo hne hnow, h.hp, h.bits, hs.row, fun y hy => ?_, fun y hy => ?_, ?_, ?_, ?_, h.n6, h.gN, h.loM, fun y hy => (List.mem_append.1 hy).elim (h.loT y) (fun h1 => by rw [List.mem_singleton.1 h1]; exact Nat.le_trans (Nat.le_trans h.gN (Nat.le_of_lt h.gblk.lt)) ht.new)⟩
  · rcases List.mem_append.1 hy with h1 | h1
    · have b0 := h.ts y h1
      have b1 := ht.only.blk b0 (fun hm => h.no (h.in5 h1) (by decide : (5 : Nat) ≠ 2) (h.in2 (by rw [List.mem_singleton.1 hm]; exact hbm)))
      exact hs.only.blk b1 (out 5 y.t (h.in5 h1) (by decide) (by decide) (by decide))
    · obtain rfl := List.mem_singleton.1 h1
      refine hs.only.blk (by rw [hx0]; exact ht.blk) (fun hm => ?_)
      have hlt : ∀ k, k ∈ l.gb :: l.wd :: l.vT.ownBlock.toList → k < w.heap.size := by
        intro k hk
        rcases List.mem_cons.1 hk with rfl | hk
        · exact h.sep.lt _ _ h.in0
        · rcases List.mem_cons.1 hk with rfl | hk
          · exact h.sep.lt _ _ h.in3
          · exact h.sep.lt _ _ (h.in4 (by simpa using hk))
      have := hlt _ hm
      have := ht.new
      omega
  · rcases List.mem_append.1 hy with h1 | h1
    · obtain ⟨f1, f2, f3⟩ := h.fits y h1
      refine ⟨f1, f2, ?_⟩
      show y.tb = 2 ∧ isGet (setW g.ls x.a now) y.a = 4 ∨ y.tb = 0 ∧ isGet (setW g.ls x.a now) y.a = 3
      rw [isGet_setW, if_neg (hold y h1)]
      exact f3
    · obtain rfl := List.mem_singleton.1 h1
      refine ⟨by omega, hcl, ?_⟩
      show y.tb = 2 ∧ isGet (setW g.ls y.a now) y.a = 4 ∨ y.tb = 0 ∧ isGet (setW g.ls y.a now) y.a = 3
      rw [isGet_setW, if_pos rfl]
      rcases hk with ⟨_, h1, h2⟩ | ⟨_, h1, h2⟩
      · exact Or.inl ⟨h2, h1⟩
      · exact Or.inr ⟨h2, h1⟩
  · show ((g.T ++ [x]).map (·.a)).Nodup
    rw [List.map_append, List.nodup_append]
    refine ⟨h.ta, by simp, fun u hu v hv => ?_⟩
    obtain ⟨y, hy, rfl⟩ := List.mem_map.1 hu
    simp at hv
    rw [hv]; exact hold y hy
  · show ((g.T ++ [x]).map (·.t)).Nodup
    rw [List.map_append, List.nodup_append]
    refine ⟨h.tt, by simp, fun u hu v hv => ?_⟩
    obtain ⟨y, hy, rfl⟩ := List.mem_map.1 hu
    simp at hv
    rw [hv]; exact hnewt y hy
  · have hxt : x.t < w1.heap.size := ht.blk.lt
    refine h.sep.turns (by omega) (fun p k hk => ?_) (fun p q k hf hp hq => ?_)
    · rcases gF_mem.1 hk with ⟨rfl, rfl⟩ | ⟨rfl, h1⟩ | ⟨rfl, h1⟩ | ⟨rfl, h1⟩ | ⟨rfl, h1⟩ | ⟨rfl, y, h1, rfl⟩
      · have := h.sep.lt _ _ h.in0; exact ⟨Or.inl h.in0, Nat.lt_of_lt_of_le this (by omega)⟩
      · have := h.sep.lt _ _ (h.in1 h1); exact ⟨Or.inl (h.in1 h1), by omega⟩
      · have := h.sep.lt _ _ (h.in2 h1); exact ⟨Or.inl (h.in2 h1), by omega⟩
      · rcases h1 with rfl | h1 | h1
        · have := h.sep.lt _ _ h.in3; exact ⟨Or.inl h.in3, Nat.lt_of_lt_of_le this (by omega)⟩
        · have := h.sep.lt _ _ (h.in3C h1); exact ⟨Or.inl (h.in3C h1), by omega⟩
        · have := hs.nl k h1; exact ⟨Or.inr (by omega), own_lt hs.wo.rl k h1⟩
      · refine ⟨?_, own_lt hs.row k h1⟩
        rcases hs.nt k h1 with h2 | h2
        · exact Or.inl (h.in4 h2)
        · exact Or.inr (by omega)
      · rcases List.mem_append.1 h1 with h2 | h2
        · have := h.sep.lt _ _ (h.in5 h2); exact ⟨Or.inl (h.in5 h2), by omega⟩
        · obtain rfl := List.mem_singleton.1 h2
          exact ⟨Or.inr ht.new, by omega⟩
    · have key : ∀ p, k ∈ gF l.gb l.m l.Q l.M l.B l.V l.wd l.vC vL' vT' (g.T ++ [x]) p → p = 3 ∧ vL'.ownBlock = some k ∨ p = 4 ∧ vT'.ownBlock = some k ∧ w1.heap.size ≤ k ∧ vL'.ownBlock ≠ some k ∨ p = 5 ∧ k = x.t := by
        intro p hk
        rcases gF_mem.1 hk with ⟨rfl, rfl⟩ | ⟨rfl, h1⟩ | ⟨rfl, h1⟩ | ⟨rfl, h1⟩ | ⟨rfl, h1⟩ | ⟨rfl, y, h1, rfl⟩
        · have := h.sep.lt _ _ h.in0; omega
        · have := h.sep.lt _ _ (h.in1 h1); omega
        · have := h.sep.lt _ _ (h.in2 h1); omega
        · rcases h1 with rfl | h1 | h1
          · have := h.sep.lt _ _ h.in3; omega
          · have := h.sep.lt _ _ (h.in3C h1); omega
          · exact Or.inl ⟨rfl, h1⟩
        · rcases hs.nt k h1 with h2 | h2
          · have := h.sep.lt _ _ (h.in4 h2); omega
          · exact Or.inr (Or.inl ⟨rfl, h1, h2.1, h2.2⟩)
        · rcases List.mem_append.1 h1 with h2 | h2
          · have := h.sep.lt _ _ (h.in5 h2); omega
          · obtain rfl := List.mem_singleton.1 h2
            exact Or.inr (Or.inr ⟨rfl, rfl⟩)
      rcases key p hp with ⟨rfl, a1⟩ | ⟨rfl, a1, a2, a3⟩ | ⟨rfl, a1⟩ <;> rcases key q hq with ⟨rfl, b1⟩ | ⟨rfl, b1, b2, b3⟩ | ⟨rfl, b1⟩ <;> first | rfl | (exfalso; first | exact b3 a1 | exact a3 b1 | (have := hs.nl k a1; omega) | (have := hs.nl k b1; omega) | omega)

end Go.Proofs.YtbkaemajjaiklaaGreat

/- SlabPlays: Reserve of a class that is none; the game behind Reserve. -/
namespace Go.Proofs.YtbkaemajjaiklaaGreat
open Go.RowKit
set_option linter.unusedVariables false
set_option linter.unusedSimpArgs false

/-- what was reserved was free -/
theorem Alike.rsvFree {A : SA} {n : Nat} {cs cs' : List Int} {ls ls' : List (Int × Int)} {c : Nat} {a x : Int} (h : Alike A n cs ls) (hn : n ≤ 64) (hc : 1 ≤ c ∧ c ≤ 3) (hr : RsvW cs ls c n a x cs' ls') : ls' = ls ∨ ls' = setW ls a 1 ∧ isGet ls a = 0 := by
  cases hr with
  | old k j hk hj hcs h0 hno => exact Or.inr ⟨rfl, h0⟩
  | new k hk h0 hf hno =>
    refine Or.inr ⟨rfl, ?_⟩
    apply Classical.byContradiction
    intro hne
    obtain ⟨i, j', c', h1, h2, h3, h4, h5, h6⟩ := h.blkOf hne
    have := block_same (by omega) (by omega) hc ⟨h3, h4⟩ (nb_pos hc) h2 h6
    subst this
    rw [h0] at h5
    omega
  | full hf hno => exact Or.inl rfl
theorem takeSA_heap {A : SA} {c : Nat} (h : ∀ d, HeapL (A.fr d)) (h0 : A.fr c ≠ []) : ∀ d, HeapL ((takeSA A c).fr d) := upd_heap h c (popL_heap (h c) h0)
theorem giveSA_bits (A : SA) (i c : Nat) (h : ∀ i, ∃ b : Nat, b < 18446744073709551616 ∧ (A.hd.getD i (0, 0)).2 = (b : Int)) : ∀ j, ∃ b : Nat, b < 18446744073709551616 ∧ ((giveSA A i c).hd.getD j (0, 0)).2 = (b : Int) := by
  intro j
  unfold giveSA
  rw [giveTo_hd]
  by_cases e : j = i
  · subst e
    by_cases hl : j < A.hd.length
    · obtain ⟨b, h1, h2⟩ := h j
      refine ⟨b, h1, ?_⟩
      rw [List.getD_eq_getElem?_getD, List.getElem?_set_self hl]
      exact h2
    · rw [List.set_eq_of_length_le (Nat.le_of_not_lt hl)]; exact h j
  · rw [List.getD_eq_getElem?_getD, List.getElem?_set_ne (Ne.symm e), ← List.getD_eq_getElem?_getD]; exact h j
/-- the blocks turned, and the document's: the game stands, whatever they say by then -/
theorem GameIs.turned {w w1 w2 : World} {N n K : Nat} {l : GL} {g : GA} (h : GameIs w N n K l g) {A' : SA} {V' : Nat → Value} (hs : SlabIs w1 N l.B V' ((8 * l.M.view.length : Nat) : Int) A') (hm : Moved l.B l.V V' w w1) (hl : A'.hd.length = g.A.hd.length)
    {cs' : List Int} {ls' : List (Int × Int)} {vL' : Value} (hw : WorldIs w2 N l.wd ((8 * l.M.view.length : Nat) : Int) cs' ls' l.vC vL') (ho : Only (l.wd :: l.vC.ownBlock.toList) w1 w2) (hv : ∀ k, vL'.ownBlock = some k → l.vL.ownBlock = some k ∨ w1.heap.size ≤ k)
    (al : Alike A' n cs' ls') (hp : ∀ d, HeapL (A'.fr d)) (bits : ∀ i, ∃ b : Nat, b < 18446744073709551616 ∧ (A'.hd.getD i (0, 0)).2 = (b : Int)) (fits : ∀ x ∈ g.T, TurnFits ls' x) :
    GameIs w2 N n K { l with V := V', vL := vL' } { g with A := A', cs := cs', ls := ls' } := by
  have out : ∀ p k, k ∈ l.F g.T p → p ≠ 3 → k ∉ l.wd :: l.vC.ownBlock.toList := by
    intro p k hk h3 hm
    rcases List.mem_cons.1 hm with rfl | hm
    · exact h3 (h.sep.one _ _ _ hk h.in3)
    · exact h3 (h.sep.one _ _ _ hk (h.in3C (by simpa using hm)))
  have hw1 := h.work.moved hs hm hl
  have hs1 := hm.only.size
  have hs2 := ho.size
  have fl : ∀ k ∈ foot l.B V', k < w1.heap.size := hw1.foot_lt
  have fo : ∀ k ∈ foot l.B V', k ∉ l.wd :: l.vC.ownBlock.toList := by
    intro k hk hmm
    rcases hm.foot k hk with h1 | h1
    · exact out 2 k (h.in2 h1) (by decide) hmm
    · have : k < w.heap.size := by
        rcases List.mem_cons.1 hmm with rfl | h2
        · exact h.sep.lt _ _ h.in3
        · exact h.sep.lt _ _ (h.in3C (by simpa using h2))
      omega
  have n2 : ∀ p k, k ∈ l.F g.T p → p ≠ 2 → k ∉ foot l.B l.V := fun p k hk hp hf => hp (h.sep.one _ _ _ hk (h.in2 hf))
  refine ⟨ho.blk (hm.only.blk h.gblk (n2 0 _ h.in0 (by decide))) (out 0 _ h.in0 (by decide)), hw1.only ho (fun k hk => out 1 k (h.in1 hk) (by decide)) fo, h.ma, hw, al, hp, bits,
    ho.own (hm.only.own h.row (fun k hk => n2 4 k (h.in4 hk) (by decide))) (fun k hk => out 4 k (h.in4 hk) (by decide)), fun y hy => ho.blk (hm.only.blk (h.ts y hy) (n2 5 _ (h.in5 hy) (by decide))) (out 5 _ (h.in5 hy) (by decide)), fits, h.ta, h.tt, ?_, h.n6, h.gN, h.loM, h.loT⟩
  have lt : ∀ p k, k ∈ l.F g.T p → k < w2.heap.size := fun p k hk => Nat.lt_of_lt_of_le (h.sep.lt p k hk) (by omega)
  refine h.sep.turns (by omega) (fun p k hk => ?_) (fun p q k hf hp hq => ?_)
  · rcases gF_mem.1 hk with ⟨rfl, rfl⟩ | ⟨rfl, h1⟩ | ⟨rfl, h1⟩ | ⟨rfl, h1⟩ | ⟨rfl, h1⟩ | ⟨rfl, y, h1, rfl⟩
    · exact ⟨Or.inl h.in0, lt _ _ h.in0⟩
    · exact ⟨Or.inl (h.in1 h1), lt _ _ (h.in1 h1)⟩
    · refine ⟨(hm.foot k h1).imp (fun hh => h.in2 hh) id, ?_⟩
      have := fl k h1; omega
    · rcases h1 with rfl | h1 | h1
      · exact ⟨Or.inl h.in3, lt _ _ h.in3⟩
      · exact ⟨Or.inl (h.in3C h1), lt _ _ (h.in3C h1)⟩
      · refine ⟨?_, own_lt hw.rl k h1⟩
        rcases hv k h1 with h2 | h2
        · exact Or.inl (h.in3L h2)
        · exact Or.inr (by omega)
    · exact ⟨Or.inl (h.in4 h1), lt _ _ (h.in4 h1)⟩
    · exact ⟨Or.inl (h.in5 h1), lt _ _ (h.in5 h1)⟩
  · have key : ∀ p, k ∈ gF l.gb l.m l.Q l.M l.B V' l.wd l.vC vL' l.vT g.T p → p = 2 ∧ k < w1.heap.size ∨ p = 3 ∧ w1.heap.size ≤ k := by
      intro p hk
      rcases gF_mem.1 hk with ⟨rfl, rfl⟩ | ⟨rfl, h1⟩ | ⟨rfl, h1⟩ | ⟨rfl, h1⟩ | ⟨rfl, h1⟩ | ⟨rfl, y, h1, rfl⟩
      · have := h.sep.lt _ _ h.in0; omega
      · have := h.sep.lt _ _ (h.in1 h1); omega
      · exact Or.inl ⟨rfl, fl k h1⟩
      · rcases h1 with rfl | h1 | h1
        · have := h.sep.lt _ _ h.in3; omega
        · have := h.sep.lt _ _ (h.in3C h1); omega
        · rcases hv k h1 with h2 | h2
          · have := h.sep.lt _ _ (h.in3L h2); omega
          · exact Or.inr ⟨rfl, h2⟩
      · have := h.sep.lt _ _ (h.in4 h1); omega
      · have := h.sep.lt _ _ (h.in5 h1); omega
    rcases key p hp with ⟨rfl, a1⟩ | ⟨rfl, a1⟩ <;> rcases key q hq with ⟨rfl, b1⟩ | ⟨rfl, b1⟩ <;> first | rfl | omega

end Go.Proofs.YtbkaemajjaiklaaGreat

/- SlabPlays: the game behind Reserve. -/
namespace Go.Proofs.YtbkaemajjaiklaaGreat
open Go.RowKit
set_option linter.unusedVariables false
set_option linter.unusedSimpArgs false

theorem clsOf_hd {A : SA} {j : Nat} (hj : j + 1 < A.hd.length) : clsOf A (j + 1) = A.hd[j + 1].1 := by
  unfold clsOf
  rw [List.getD_eq_getElem?_getD, List.getElem?_eq_getElem hj]; rfl
/-- both reserved: the same is told, the game stands -/
theorem GameIs.reserved {w w1 w2 : World} {N n K : Nat} {l : GL} {g : GA} (h : GameIs w N n K l g) {c : Nat} (hc : 1 ≤ c ∧ c ≤ 3) {e1 e2 : Ending}
    (h1 : RsvPost w N l.B l.V ((8 * l.M.view.length : Nat) : Int) g.A c e1 w1) (h2 : RsvWP w1 N l.wd ((8 * l.M.view.length : Nat) : Int) g.cs g.ls l.vC l.vL c n e2 w2) :
    ∃ a x, e1 = .returned (.tuple #[.int .u64 a, .int .i64 x]) ∧ e2 = .returned (.tuple #[.int .u64 a, .int .i64 x]) ∧ ∃ A' V' cs' ls' vL', GameIs w2 N n K { l with V := V', vL := vL' } { g with A := A', cs := cs', ls := ls' } ∧ Rsvd g.A c n a x A' cs' ls' ∧ RsvW g.cs g.ls c n a x cs' ls' := by
  obtain ⟨a, x, cs', ls', vL', hr, rfl, hw, ho, hv⟩ := h2.out
  have hn := h.work.hn.2
  have hl := h.work.hl
  obtain ⟨A', hA'⟩ := h.al.rsv hn hl hc h.hp hr
  have hfr := h.al.rsvFree hn hc hr
  have fits : ∀ y ∈ g.T, TurnFits ls' y := by
    intro y hy
    obtain ⟨f1, f2, f3⟩ := h.fits y hy
    refine ⟨f1, f2, ?_⟩
    rcases hfr with rfl | ⟨rfl, h0⟩
    · exact f3
    · have hne : y.a ≠ a := by
        intro e
        rw [e, h0] at f3
        omega
      rw [isGet_setW, if_neg hne]
      exact f3
  refine ⟨a, x, ?_⟩
  rcases h1.ok with ⟨A1, V1, hA1, rfl, hs, hm⟩ | ⟨q1, q2, rfl, hs, hm⟩
  · rcases hA1 with ⟨rfl, hne⟩ | ⟨he, j, hj, hz, rfl, hfst⟩
    · cases hA' with
      | old h0 al => exact ⟨rfl, rfl, _, V1, cs', ls', vL', h.turned hs hm rfl hw ho hv al (takeSA_heap h.hp h0) h.bits fits, Rsvd.old h0 al, hr⟩
      | new k h0 => exact absurd h0 hne
      | full h0 => exact absurd h0 hne
    · cases hA' with
      | old h0 al => exact absurd he h0
      | new k h0 hk hk0 hf al =>
        have hjk : j = k := by
          rcases Nat.lt_trichotomy j k with h3 | h3 | h3
          · exact absurd (by rw [clsOf_hd hj]; exact hz) (hf j h3)
          · exact h3
          · have hk1 : k + 1 < g.A.hd.length := by omega
            exact absurd (by rw [← clsOf_hd hk1]; exact hk0) (hfst k hk1 h3)
        subst hjk
        exact ⟨rfl, rfl, _, V1, cs', ls', vL', h.turned hs hm (giveSA_hd _ _ _) hw ho hv al (takeSA_heap (giveTo_heap _ _ _ h.hp _) (giveSA_ne _ _ hc)) (giveSA_bits _ _ _ h.bits) fits, Rsvd.new j h0 hk hk0 hf al, hr⟩
      | full h0 hf =>
        exact absurd (by rw [clsOf_hd hj]; exact hz) (hf j (by omega))
  · cases hA' with
    | old h0 al => exact absurd q1 h0
    | new k h0 hk hk0 hf al =>
      have hk1 : k + 1 < g.A.hd.length := by omega
      exact absurd (by rw [← clsOf_hd hk1]; exact hk0) (q2 k hk1)
    | full h0 hf al => exact ⟨rfl, rfl, _, l.V, cs', ls', vL', h.turned hs hm rfl hw ho hv al h.hp h.bits fits, Rsvd.full h0 hf al, hr⟩

end Go.Proofs.YtbkaemajjaiklaaGreat

/- SlabPlays: the game behind Release, behind an eviction. -/
namespace Go.Proofs.YtbkaemajjaiklaaGreat
open Go.RowKit
set_option linter.unusedVariables false
set_option linter.unusedSimpArgs false

/-- where a block that is not free lies, in numbers -/
theorem GameIs.at {w : World} {N n K : Nat} {l : GL} {g : GA} (h : GameIs w N n K l g) {a : Int} (ha : isGet g.ls a ≠ 0) :
    ∃ i j c : Nat, i < n ∧ j < nb c ∧ 1 ≤ c ∧ c ≤ 3 ∧ g.cs.getD i 0 = (c : Int) ∧ a = blockZ ((i : Int) + 1) c j ∧ slabZ a = (i : Int) + 1 ∧ clsZ g.A (slabZ a) = (c : Int) ∧ clsOf g.A (i + 1) = (c : Int) ∧ 0 < a ∧ a ≤ 18446744073709551615 := by
  obtain ⟨i, j, c, h1, h2, h3, h4, h5, h6⟩ := h.al.blkOf ha
  have hn := h.work.hn
  have hb := block_in (i := i) (by omega) ⟨h3, h4⟩ h2
  have hs : slabZ a = (i : Int) + 1 := by
    rw [h6]
    unfold slabZ
    rw [if_pos (by omega)]; omega
  have hc : clsOf g.A (i + 1) = (c : Int) := by rw [h.al.cls i h1]; exact h5
  refine ⟨i, j, c, h1, h2, h3, h4, h5, h6, hs, ?_, hc, by omega, by omega⟩
  unfold clsZ
  have hl := h.work.hl
  rw [hs, if_pos ⟨by omega, by omega⟩, show ((i : Int) + 1).toNat = i + 1 by omega]
  exact hc
end Go.Proofs.YtbkaemajjaiklaaGreat

/- SlabPlays: the game behind an eviction. -/
namespace Go.Proofs.YtbkaemajjaiklaaGreat
open Go.RowKit
set_option linter.unusedVariables false
set_option linter.unusedSimpArgs false

/-- the memory turned -/
theorem GameIs.mem {w w' : World} {N n K K' d : Nat} {l : GL} {g : GA} (h : GameIs w N n K l g) {M' : MemS} (hm : Mems w' l.m l.Q M' K') (hw : Went l.m l.Q w l.M w' M' d) (hv : M'.view.length = l.M.view.length) : GameIs w' N n K' { l with M := M' } { g with ma := absM M' } := by
  have no : ∀ p k, k ∈ l.F g.T p → p ≠ 1 → k ∉ footM l.m l.Q l.M := fun p k hk hp hf => hp (h.sep.one _ _ _ hk (h.in1 hf))
  have hs := hw.only.size
  have hsl := h.work.sl.only hw.only (fun i k hk => no 2 k (h.in2 (foot_mem.2 ⟨i, hk⟩)) (by decide))
  have wk : Work w' N l.B l.V g.A n l.m l.Q M' K' := by
    refine ⟨by rw [hv]; exact hsl, h.work.hl, h.work.hn, hm, hv.trans h.work.vl, fun k hk hf => ?_, Nat.le_trans h.work.lo hs⟩
    rcases hw.foot k hk with h1 | h1
    · exact h.work.far k h1 hf
    · have := h.work.foot_lt k hf; omega
  refine ⟨hw.only.blk h.gblk (no 0 _ h.in0 (by decide)), wk, rfl, ?_, h.al, h.hp, h.bits, hw.only.own h.row (fun k hk => no 4 k (h.in4 hk) (by decide)), fun y hy => hw.only.blk (h.ts y hy) (no 5 _ (h.in5 hy) (by decide)), h.fits, h.ta, h.tt, ?_, h.n6, h.gN, fun k hk => (hw.foot k hk).elim (h.loM k) (fun h1 => Nat.le_trans (Nat.le_trans h.gN (Nat.le_of_lt h.gblk.lt)) h1), h.loT⟩
  · show WorldIs w' N l.wd ((8 * M'.view.length : Nat) : Int) g.cs g.ls l.vC l.vL
    rw [hv]
    exact h.wo.only hw.only (no 3 _ h.in3 (by decide)) (fun k hk => no 3 k (h.in3C hk) (by decide)) (fun k hk => no 3 k (h.in3L hk) (by decide))
  · refine h.sep.turn 1 hs (fun q hq k hk => ?_) (fun k hk => ?_)
    · rcases gF_mem.1 hk with ⟨rfl, rfl⟩ | ⟨rfl, h1⟩ | ⟨rfl, h1⟩ | ⟨rfl, h1⟩ | ⟨rfl, h1⟩ | ⟨rfl, y, h1, rfl⟩
      · exact h.in0
      · exact absurd rfl hq
      · exact h.in2 h1
      · exact gF_mem.2 (Or.inr (Or.inr (Or.inr (Or.inl ⟨rfl, h1⟩))))
      · exact h.in4 h1
      · exact h.in5 h1
    · rcases gF_mem.1 hk with ⟨e, _⟩ | ⟨_, h1⟩ | ⟨e, _⟩ | ⟨e, _⟩ | ⟨e, _⟩ | ⟨e, _⟩
      · exact absurd e (by decide)
      · exact ⟨(hw.foot k h1).imp (fun hh => h.in1 hh) id, hm.foot_lt k h1⟩
      · exact absurd e (by decide)
      · exact absurd e (by decide)
      · exact absurd e (by decide)
      · exact absurd e (by decide)

end Go.Proofs.YtbkaemajjaiklaaGreat

/- SlabPlays: the row of turns: looked at, one turned. -/
namespace Go.Proofs.YtbkaemajjaiklaaGreat
open Go.RowKit
set_option linter.unusedVariables false
set_option linter.unusedSimpArgs false

end Go.Proofs.YtbkaemajjaiklaaGreat

/- SlabPlays: a turn's steps counted in the row. -/
namespace Go.Proofs.YtbkaemajjaiklaaGreat
open Go.RowKit
set_option linter.unusedVariables false
set_option linter.unusedSimpArgs false

def TR.next (x : TR) : TR := { x with ph := x.ph + 1 }
end Go.Proofs.YtbkaemajjaiklaaGreat

/- SlabPlays: which turn is of which numbers. -/
namespace Go.Proofs.YtbkaemajjaiklaaGreat
open Go.RowKit
set_option linter.unusedVariables false
set_option linter.unusedSimpArgs false

theorem idx_of {i c j : Nat} (hi : i < 64) (hc : 1 ≤ c ∧ c ≤ 3) (hj : j < nb c) : idxI (blockZ ((i : Int) + 1) c j) c = (j : Int) := by
  have hb := block_in hi hc hj
  have hn := nb_eq c
  have hs : slabZ (blockZ ((i : Int) + 1) c j) = (i : Int) + 1 := by unfold slabZ; rw [if_pos (by omega)]; omega
  exact (idx_at (by omega) (idxZ_at _ _ _ (by omega) (by omega) (by omega) (by rw [hs]) (by omega))).1
end Go.Proofs.YtbkaemajjaiklaaGreat

/- SlabPlays: the game behind a step that does not end its turn. -/
namespace Go.Proofs.YtbkaemajjaiklaaGreat
open Go.RowKit
set_option linter.unusedVariables false
set_option linter.unusedSimpArgs false

theorem Alike.head {A : SA} {n : Nat} {cs : List Int} {ls : List (Int × Int)} (h : Alike A n cs ls) (i b : Nat) : Alike (hdSA A i b) n cs ls :=
  ⟨h.cl, fun k hk => by rw [hdSA_cls]; exact h.cls k hk, h.le, h.is, h.ua, h.ul, h.nz, h.nd, h.fr, h.blk⟩
end Go.Proofs.YtbkaemajjaiklaaGreat

/- SlabPlays: the game behind a step: where all lies. -/
namespace Go.Proofs.YtbkaemajjaiklaaGreat
open Go.RowKit
set_option linter.unusedVariables false
set_option linter.unusedSimpArgs false

/-- behind the step itself (the row not yet told): what stands -/
structure Mid (w w1 : World) (N n K : Nat) (l : GL) (g : GA) (x : TR) (M' : MemS) (V' : Nat → Value) (A' : SA) : Prop where
  gblk : Blk w1 l.gb 55 #[.pointer (some ⟨l.m, 0, none⟩), .pointer (some ⟨l.B.s, 0, none⟩), .pointer (some ⟨l.wd, 0, none⟩), l.vT]
  work : Work w1 N l.B V' A' n l.m l.Q M' (K + 1)
  wo : WorldIs w1 N l.wd ((8 * M'.view.length : Nat) : Int) g.cs g.ls l.vC l.vL
  row : w1.ownsRow N 179 4 l.vT g.T.length (g.T.flatMap trC)
  oth : ∀ y ∈ g.T, y.t ≠ x.t → Blk w1 y.t 162 (turnC l.B.s l.m y.t y.cl y.a y.tb y.ph)
  own : Blk w1 x.t 162 (turnC l.B.s l.m x.t x.cl x.a x.tb (x.ph + 1))
  sep : Sep w1 (gF l.gb l.m l.Q M' l.B V' l.wd l.vC l.vL l.vT g.T)
  loM : ∀ k ∈ footM l.m l.Q M', N ≤ k

theorem GameIs.mid {w w1 : World} {N n K : Nat} {l : GL} {g : GA} (h : GameIs w N n K l g) {x : TR} (hx : x ∈ g.T) {i c j b : Nat} {M' : MemS} {V' : Nat → Value} (hs : StepW w N l.B l.V g.A n l.m l.Q l.M K x.t x.cl x.a x.tb i c j b x.ph w1 M' V') (hv : M'.view.length = l.M.view.length) :
    Mid w w1 N n K l g x M' V' (nextSA g.A i c j b x.a x.tb x.ph) := by
  have ho := hs.st.only
  have no : ∀ p k, k ∈ l.F g.T p → p ≠ 1 → p ≠ 2 → p ≠ 5 → k ∉ x.t :: footM l.m l.Q l.M ++ foot l.B l.V := by
    intro p k hk h1 h2 h5 hm
    simp only [List.cons_append, List.mem_cons, List.mem_append] at hm
    rcases hm with rfl | hm | hm
    · exact h5 (h.sep.one _ _ _ hk (h.in5 hx))
    · exact h1 (h.sep.one _ _ _ hk (h.in1 hm))
    · exact h2 (h.sep.one _ _ _ hk (h.in2 hm))
  have h5 : ∀ y ∈ g.T, y.t ≠ x.t → y.t ∉ x.t :: footM l.m l.Q l.M ++ foot l.B l.V := by
    intro y hy hne hm
    simp only [List.cons_append, List.mem_cons, List.mem_append] at hm
    rcases hm with e | hm | hm
    · exact hne e
    · exact absurd (h.sep.one _ _ _ (h.in5 hy) (h.in1 hm)) (by decide)
    · exact absurd (h.sep.one _ _ _ (h.in5 hy) (h.in2 hm)) (by decide)
  refine ⟨ho.blk h.gblk (no 0 _ h.in0 (by decide) (by decide) (by decide)), hs.work, ?_, ho.own h.row (fun k hk => no 4 k (h.in4 hk) (by decide) (by decide) (by decide)), fun y hy hne => ho.blk (h.ts y hy) (h5 y hy hne), hs.blk, ?_, fun k hk => (hs.st.fm k hk).elim (h.loM k) (fun h1 => Nat.le_trans (Nat.le_trans h.gN (Nat.le_of_lt h.gblk.lt)) h1)⟩
  · rw [hv]
    exact h.wo.only ho (no 3 _ h.in3 (by decide) (by decide) (by decide)) (fun k hk => no 3 k (h.in3C hk) (by decide) (by decide) (by decide)) (fun k hk => no 3 k (h.in3L hk) (by decide) (by decide) (by decide))
  · have hsz := ho.size
    have lt1 := hs.work.mem.foot_lt
    have lt2 := hs.work.foot_lt
    refine h.sep.turns hsz (fun p k hk => ?_) (fun p q k hf hp hq => ?_)
    · rcases gF_mem.1 hk with ⟨rfl, rfl⟩ | ⟨rfl, h1⟩ | ⟨rfl, h1⟩ | ⟨rfl, h1⟩ | ⟨rfl, h1⟩ | ⟨rfl, y, h1, rfl⟩
      · exact ⟨Or.inl h.in0, Nat.lt_of_lt_of_le (h.sep.lt _ _ h.in0) hsz⟩
      · exact ⟨(hs.st.fm k h1).imp (fun hh => h.in1 hh) id, lt1 k h1⟩
      · exact ⟨(hs.st.fs k h1).imp (fun hh => h.in2 hh) id, lt2 k h1⟩
      · have h3 : k ∈ l.F g.T 3 := gF_mem.2 (Or.inr (Or.inr (Or.inr (Or.inl ⟨rfl, h1⟩))))
        exact ⟨Or.inl h3, Nat.lt_of_lt_of_le (h.sep.lt _ _ h3) hsz⟩
      · exact ⟨Or.inl (h.in4 h1), Nat.lt_of_lt_of_le (h.sep.lt _ _ (h.in4 h1)) hsz⟩
      · exact ⟨Or.inl (h.in5 h1), Nat.lt_of_lt_of_le (h.sep.lt _ _ (h.in5 h1)) hsz⟩
    · have key : ∀ p, k ∈ gF l.gb l.m l.Q M' l.B V' l.wd l.vC l.vL l.vT g.T p → p = 1 ∧ k ∈ footM l.m l.Q M' ∨ p = 2 ∧ k ∈ foot l.B V' := by
        intro p hk
        rcases gF_mem.1 hk with ⟨rfl, rfl⟩ | ⟨rfl, h1⟩ | ⟨rfl, h1⟩ | ⟨rfl, h1⟩ | ⟨rfl, h1⟩ | ⟨rfl, y, h1, rfl⟩
        · have := h.sep.lt _ _ h.in0; omega
        · exact Or.inl ⟨rfl, h1⟩
        · exact Or.inr ⟨rfl, h1⟩
        · have h3 : k ∈ l.F g.T 3 := gF_mem.2 (Or.inr (Or.inr (Or.inr (Or.inl ⟨rfl, h1⟩))))
          have := h.sep.lt _ _ h3; omega
        · have := h.sep.lt _ _ (h.in4 h1); omega
        · have := h.sep.lt _ _ (h.in5 h1); omega
      rcases key p hp with ⟨rfl, a1⟩ | ⟨rfl, a1⟩ <;> rcases key q hq with ⟨rfl, b1⟩ | ⟨rfl, b1⟩
      · rfl
      · exact absurd b1 (hs.work.far k a1)
      · exact absurd a1 (hs.work.far k b1)
      · rfl

end Go.Proofs.YtbkaemajjaiklaaGreat

/- SlabPlays: the game behind a step: one that does not end its turn, one that does. -/
namespace Go.Proofs.YtbkaemajjaiklaaGreat
open Go.RowKit
set_option linter.unusedVariables false
set_option linter.unusedSimpArgs false

theorem set_mem : ∀ {T : List TR} {i : Nat} {x y : TR}, T[i]? = some x → (T.map (·.t)).Nodup → y ∈ T.set i x.next → y = x.next ∨ y ∈ T ∧ y.t ≠ x.t
  | [], _, _, _, h, _, _ => by cases h
  | z :: T, 0, x, y, h, hn, hy => by
    obtain rfl : z = x := by simpa using h
    rw [List.set_cons_zero] at hy
    rw [List.map_cons, List.nodup_cons] at hn
    rcases List.mem_cons.1 hy with h1 | h1
    · exact Or.inl h1
    · exact Or.inr ⟨List.mem_cons_of_mem _ h1, fun e => hn.1 (e ▸ List.mem_map.2 ⟨y, h1, rfl⟩)⟩
  | z :: T, i + 1, x, y, h, hn, hy => by
    rw [List.set_cons_succ] at hy
    rw [List.map_cons, List.nodup_cons] at hn
    have h' : T[i]? = some x := by simpa using h
    rcases List.mem_cons.1 hy with h1 | h1
    · subst h1
      exact Or.inr ⟨List.mem_cons_self .., fun e => hn.1 (e ▸ List.mem_map.2 ⟨x, List.mem_of_getElem? h', rfl⟩)⟩
    · rcases set_mem h' hn.2 h1 with h2 | ⟨h2, h3⟩
      · exact Or.inl h2
      · exact Or.inr ⟨List.mem_cons_of_mem _ h2, h3⟩
section
variable {w w1 : World} {N n K : Nat} {l : GL} {g : GA} {x : TR} {M' : MemS} {V' : Nat → Value} {A' : SA}
end

section
variable {w w1 w2 w3 : World} {N n K : Nat} {l : GL} {g : GA} {x : TR} {M' : MemS} {V' : Nat → Value} {A' : SA}
end

end Go.Proofs.YtbkaemajjaiklaaGreat

/- SlabPlays: a step that ends its turn: the blocks say what the document is told. -/
namespace Go.Proofs.YtbkaemajjaiklaaGreat
open Go.RowKit
set_option linter.unusedVariables false
set_option linter.unusedSimpArgs false

end Go.Proofs.YtbkaemajjaiklaaGreat

/- SlabPlays: the row of turns without one of them. -/
namespace Go.Proofs.YtbkaemajjaiklaaGreat
open Go.RowKit
set_option linter.unusedVariables false
set_option linter.unusedSimpArgs false

theorem own_down {w : World} {base base' : Nat} {e : TypeId} {size : Nat} {v : Value} {n : Nat} {xs : List Value} (h : w.ownsRow base e size v n xs) (hb : base' ≤ base) : w.ownsRow base' e size v n xs := by
  rcases h with ⟨h1, h2 | ⟨b, cap, cur, e1, e2, h3⟩⟩
  · exact ⟨h1, Or.inl h2⟩
  · exact ⟨h1, Or.inr ⟨b, cap, cur, e1, Nat.le_trans hb e2, h3⟩⟩
end Go.Proofs.YtbkaemajjaiklaaGreat

/- SlabPlays: a step of the game. -/
namespace Go.Proofs.YtbkaemajjaiklaaGreat
open Go.RowKit
set_option linter.unusedVariables false
set_option linter.unusedSimpArgs false

attribute [local go_sem ↓ high] append_shut2
attribute [local go_sem] appM2_run

/-- a turn of a game, in numbers -/
structure TurnAt (n : Nat) (g : GA) (x : TR) (i c j b : Nat) : Prop where
  ph : x.ph < 4
  ii : slabZ x.a = (i : Int)
  i1 : 1 ≤ i ∧ i ≤ n
  cc : clsOf g.A i = (c : Int)
  c3 : 1 ≤ c ∧ c ≤ 3
  j1 : j < nb c
  aa : x.a = blockZ (i : Int) c j
  cl : x.cl ≤ 64
  bb : (g.A.hd.getD i (0, 0)).2 = (b : Int)
  b64 : b < 18446744073709551616
  tb : x.tb = 2 ∧ isGet g.ls x.a = 4 ∨ x.tb = 0 ∧ isGet g.ls x.a = 3
inductive Stepd (n : Nat) (nn : Int) (g : GA) : GA → Prop
  | none : g.T = [] → Stepd n nn g g
  | mid (idx : Nat) (x : TR) (i c j b : Nat) : (idx : Int) = (nn % 18446744073709551616) % (g.T.length : Int) → g.T[idx]? = some x → TurnAt n g x i c j b → x.ph < 3 →
      Stepd n nn g { g with ma := nextMA g.ma i c j b x.tb x.cl x.ph, A := nextSA g.A i c j b x.a x.tb x.ph, T := g.T.set idx x.next }
  | fin (idx : Nat) (x : TR) (i c j b : Nat) : (idx : Int) = (nn % 18446744073709551616) % (g.T.length : Int) → g.T[idx]? = some x → TurnAt n g x i c j b → x.ph = 3 →
      Stepd n nn g { g with ma := nextMA g.ma i c j b x.tb x.cl 3, A := nextSA g.A i c j b x.a x.tb 3, ls := setW g.ls x.a x.tb, T := g.T.eraseIdx idx }
theorem GameIs.up {w : World} {N n K : Nat} {l : GL} {g : GA} (h : GameIs w N n K l g) : GameIs w N n (K + 1) l g := { h with work := { h.work with mem := h.work.mem.mono (Nat.le_succ _) } }
theorem StepW.before {w w' : World} {N : Nat} {B : SB} {V V' : Nat → Value} {A : SA} {n m : Nat} {Q : MB} {M M' : MemS} {K t cl : Nat} {a tb : Int} {i c j b ph : Nat} (h : StepW w.drew N B V A n m Q M K t cl a tb i c j b ph w' M' V') : StepW w N B V A n m Q M K t cl a tb i c j b ph w' M' V' :=
  ⟨h.work, h.blk, h.st.pre ((Only.refl [] w).drew), h.ma⟩
end Go.Proofs.YtbkaemajjaiklaaGreat

/- SlabPlays: an act of the game: a step; one of no kind. -/
namespace Go.Proofs.YtbkaemajjaiklaaGreat
open Go.RowKit
set_option linter.unusedVariables false
set_option linter.unusedSimpArgs false

/-- what an act comes to, plainly -/
inductive Did (n : Nat) (kd nn aa cc : Int) (g : GA) : GA → Prop
  | other : ¬ (1 ≤ kd ∧ kd ≤ 6) → Did n kd nn aa cc g g
  | rsvArg : kd = 1 → ¬ (1 ≤ nn ∧ nn ≤ 3) → Did n kd nn aa cc g g
  | rsv (c : Nat) (a x : Int) (A' : SA) (cs' : List Int) (ls' : List (Int × Int)) : kd = 1 → nn = (c : Int) → 1 ≤ c ∧ c ≤ 3 → RsvW g.cs g.ls c n a x cs' ls' → Rsvd g.A c n a x A' cs' ls' → Did n kd nn aa cc g { g with A := A', cs := cs', ls := ls' }
  | relNo : kd = 2 → isGet g.ls (blkG g.ls nn aa) ≠ 1 → Did n kd nn aa cc g g
  | rel (i j c : Nat) : kd = 2 → isGet g.ls (blkG g.ls nn aa) = 1 → i < n → j < nb c → 1 ≤ c ∧ c ≤ 3 → g.cs.getD i 0 = (c : Int) → blkG g.ls nn aa = blockZ ((i : Int) + 1) c j →
      Did n kd nn aa cc g { g with A := freeSA g.A c (blkG g.ls nn aa), ls := setW g.ls (blkG g.ls nn aa) 0 }
  | pubNo : kd = 3 → ¬ (0 ≤ cc ∧ cc ≤ 64 ∧ isGet g.ls (blkG g.ls nn aa) = 1) → Did n kd nn aa cc g g
  | pub (t cl : Nat) : kd = 3 → cc = (cl : Int) → cl ≤ 64 → isGet g.ls (blkG g.ls nn aa) = 1 →
      Did n kd nn aa cc g { g with A := { g.A with is := isSet g.A.is (blkG g.ls nn aa) 4 }, ls := setW g.ls (blkG g.ls nn aa) 4, T := g.T ++ [⟨t, cl, blkG g.ls nn aa, 2, 0⟩] }
  | freNo : kd = 4 → ¬ (0 ≤ cc ∧ cc ≤ 64 ∧ isGet g.ls (blkG g.ls nn aa) = 2) → Did n kd nn aa cc g g
  | fre (t cl : Nat) : kd = 4 → cc = (cl : Int) → cl ≤ 64 → isGet g.ls (blkG g.ls nn aa) = 2 →
      Did n kd nn aa cc g { g with A := { g.A with is := isSet g.A.is (blkG g.ls nn aa) 3 }, ls := setW g.ls (blkG g.ls nn aa) 3, T := g.T ++ [⟨t, cl, blkG g.ls nn aa, 0, 0⟩] }
  | step (g' : GA) : kd = 5 → Stepd n nn g g' → Did n kd nn aa cc g g'
  | evNo : kd = 6 → nn < 0 → Did n kd nn aa cc g g
  | ev (k : Nat) : kd = 6 → 0 ≤ nn → (k : Int) = aa % (n : Int) → Did n kd nn aa cc g { g with ma := evictA g.ma (128 * (1 + k)) nn.toNat }
theorem GameIs.drew {w : World} {N n K : Nat} {l : GL} {g : GA} (h : GameIs w N n K l g) : GameIs w.drew N n K l g := h.bel (show Below w.heap.size w w.drew from ⟨rfl, rfl, rfl, Nat.le_refl _, fun _ _ => rfl⟩)
end Go.Proofs.YtbkaemajjaiklaaGreat

/- SlabPlays: an act of the game: a step, an eviction. -/
namespace Go.Proofs.YtbkaemajjaiklaaGreat
open Go.RowKit
set_option linter.unusedVariables false
set_option linter.unusedSimpArgs false

end Go.Proofs.YtbkaemajjaiklaaGreat

/- SlabPlays: an act of the game: Release. -/
namespace Go.Proofs.YtbkaemajjaiklaaGreat
open Go.RowKit
set_option linter.unusedVariables false
set_option linter.unusedSimpArgs false

end Go.Proofs.YtbkaemajjaiklaaGreat

/- SlabPlays: an act of the game: Reserve. -/
namespace Go.Proofs.YtbkaemajjaiklaaGreat
open Go.RowKit
set_option linter.unusedVariables false
set_option linter.unusedSimpArgs false

theorem RsvPost.form {w : World} {N : Nat} {B : SB} {V : Nat → Value} {size : Int} {A : SA} {c : Nat} {e : Ending} {w' : World} (h : RsvPost w N B V size A c e w') : ∃ a x, e = .returned (.tuple #[.int .u64 a, .int .i64 x]) := by
  rcases h.ok with ⟨_, _, _, rfl, _⟩ | ⟨_, _, rfl, _⟩
  · exact ⟨_, _, rfl⟩
  · exact ⟨_, _, rfl⟩
theorem RsvPost.only {w : World} {N : Nat} {B : SB} {V : Nat → Value} {size : Int} {A : SA} {c : Nat} {e : Ending} {w' : World} (h : RsvPost w N B V size A c e w') : Only (foot B V) w w' := by
  rcases h.ok with ⟨_, _, _, _, _, hm⟩ | ⟨_, _, _, _, hm⟩
  · exact hm.only
  · exact hm.only
theorem RsvWP.only {w : World} {N g : Nat} {size : Int} {cs : List Int} {ls : List (Int × Int)} {vC vL : Value} {c n : Nat} {e : Ending} {w' : World} (h : RsvWP w N g size cs ls vC vL c n e w') : Only (g :: vC.ownBlock.toList) w w' := by
  obtain ⟨_, _, _, _, _, _, _, _, ho, _⟩ := h.out
  exact ho
end Go.Proofs.YtbkaemajjaiklaaGreat
