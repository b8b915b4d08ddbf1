/- Methods of a row of addresses, called by way of an interface. -/
import Derived.Test.YtbkaemajjaiklaaFreeA
namespace Go.Proofs.Ytbkaemajjaiklaa
open Go.RowKit
set_option linter.unusedVariables false
set_option linter.unusedSimpArgs false

theorem meth_own {P : Program} {t n f : Nat} {name : String} (hn : P.types.size + Made.depth = n + 1) (h : (P.info? t).bind (fun i => (i.methods.find? (·.name == name)).map fun m => (m.path.isEmpty, m.func)) = some (true, some (f, true))) {e : TypeId} (hu : P.underlying t = some (.pointer e)) (v : Value) (w : World) :
    (method (n + 1) t v name).run P w = .ok (f, v) w := by
  cases hi : P.info? t with
  | none => rw [hi] at h; cases h
  | some i =>
    rw [hi] at h
    simp only [Option.bind_some] at h
    cases hm : i.methods.find? (·.name == name) with
    | none => rw [hm] at h; cases h
    | some m =>
      rw [hm] at h
      simp only [Option.map_some, Option.some.injEq, Prod.mk.injEq] at h
      obtain ⟨h1, h2⟩ := h
      have hp : m.path = #[] := by simpa using h1
      have hti : ∀ w, (typeInfo t).run P w = .ok i w := fun w => by simp [typeInfo, program, Sem.run, hi]
      have hund := fun w => run_underlying hu w
      unfold method
      simp only [Sem.run_bind, hti, Result.andThen_ok, hm, hp, h2, Sem.run_pure, follow]
      simp [receiverAt, hund, Place.get]
theorem meth_load {P : Program} {t n f : Nat} {name : String} (hn : P.types.size + Made.depth = n + 1) (h : (P.info? t).bind (fun i => (i.methods.find? (·.name == name)).map fun m => (m.path.isEmpty, m.func)) = some (true, some (f, false))) {e : TypeId} (hu : P.underlying t = some (.pointer e)) (a : Addr) (v : Value) (w : World) (hl : (loadVar e a).run P w = .ok v w) :
    (method (n + 1) t (.pointer (some a)) name).run P w = .ok (f, v) w := by
  cases hi : P.info? t with
  | none => rw [hi] at h; cases h
  | some i =>
    rw [hi] at h
    simp only [Option.bind_some] at h
    cases hm : i.methods.find? (·.name == name) with
    | none => rw [hm] at h; cases h
    | some m =>
      rw [hm] at h
      simp only [Option.map_some, Option.some.injEq, Prod.mk.injEq] at h
      obtain ⟨h1, h2⟩ := h
      have hp : m.path = #[] := by simpa using h1
      have hti : ∀ w, (typeInfo t).run P w = .ok i w := fun w => by simp [typeInfo, program, Sem.run, hi]
      have hund := fun w => run_underlying hu w
      unfold method
      simp only [Sem.run_bind, hti, Result.andThen_ok, hm, hp, h2, Sem.run_pure, follow]
      have hw : ∀ s : String, Builtin.ssaWrapNilChk_ #[t] t #[.pointer (some a), strVal "", strVal s] = pure (.pointer (some a)) := fun s => rfl
      simp only [receiverAt, hund, Place.get, hw, Sem.run_bind, Sem.run_pure, Result.andThen_ok]
      have ha : ∀ w, (asAddr (.pointer (some a))).run P w = .ok a w := fun w => rfl
      simp [ha, hl]
theorem fuel_eq : Try.prog.types.size + Made.depth = 330 := by kernel_rfl
theorem aLoad (f : Nat) (p : Option Addr) (n cap : Nat) (w : World) (hf : w.cell? ⟨f, 0, none⟩ = some (.slice p n cap)) : (loadVar 138 ⟨f, 0, none⟩).run Try.prog w = .ok (.slice p n cap) w := by
  unfold loadVar isAgg
  simp [run_underlying Try.underlying138, load, hf, go_sem, Sem.run]
theorem mPush (v : Value) (w : World) : (method 330 145 v "Push").run Try.prog w = .ok (163, v) w := meth_own fuel_eq (by kernel_rfl) Try.underlying145 v w
theorem mPop (v : Value) (w : World) : (method 330 145 v "Pop").run Try.prog w = .ok (162, v) w := meth_own fuel_eq (by kernel_rfl) Try.underlying145 v w
theorem mLen (f : Nat) (p : Option Addr) (n cap : Nat) (w : World) (hf : w.cell? ⟨f, 0, none⟩ = some (.slice p n cap)) : (method 330 145 (.pointer (some ⟨f, 0, none⟩)) "Len").run Try.prog w = .ok (87, .slice p n cap) w := meth_load fuel_eq (by kernel_rfl) Try.underlying145 _ _ w (aLoad f p n cap w hf)
theorem mLess (f : Nat) (p : Option Addr) (n cap : Nat) (w : World) (hf : w.cell? ⟨f, 0, none⟩ = some (.slice p n cap)) : (method 330 145 (.pointer (some ⟨f, 0, none⟩)) "Less").run Try.prog w = .ok (160, .slice p n cap) w := meth_load fuel_eq (by kernel_rfl) Try.underlying145 _ _ w (aLoad f p n cap w hf)
theorem mSwap (f : Nat) (p : Option Addr) (n cap : Nat) (w : World) (hf : w.cell? ⟨f, 0, none⟩ = some (.slice p n cap)) : (method 330 145 (.pointer (some ⟨f, 0, none⟩)) "Swap").run Try.prog w = .ok (161, .slice p n cap) w := meth_load fuel_eq (by kernel_rfl) Try.underlying145 _ _ w (aLoad f p n cap w hf)

end Go.Proofs.Ytbkaemajjaiklaa
