/- SlabPlays: an act of the game: a turn begun. -/
import Derived.Test.YtbkaemajjaiklaaGreatGameN
import Derived.Test.YtbkaemajjaiklaaGreatImg

namespace Go.Proofs.YtbkaemajjaiklaaGreat
open Go.RowKit
set_option linter.unusedVariables false
set_option linter.unusedSimpArgs false

theorem Publish_ok (N : Nat) (B : SB) (V : Nat → Value) (size : Int) (A : SA) (n m : Nat) (MBk : MB) (vl : Nat) (st : St4) (cl a : Int) (w : World) (h : TurnIn w N B V size A n m MBk vl st) (hc : 0 ≤ cl ∧ cl ≤ 64) (hw : isGet A.is a = 1) (ha : 0 ≤ a ∧ a ≤ 18446744073709551615) :
    Calls Tryz.prog 36 #[.pointer (some ⟨B.s, 0, none⟩), .pointer (some ⟨m, 0, none⟩), .int .i64 cl, .int .u64 a] w fun e w' => ∃ t, e = .returned (.tuple #[.pointer (some ⟨t, 0, none⟩), .int .i64 0]) ∧ TurnOut w N B V size A m cl a 4 2 t w' :=
  (Publish_of (fun v e w' => ∃ t, e = .returned (.tuple #[.pointer (some ⟨t, 0, none⟩), .int .i64 0]) ∧ TurnOut w N B V size A m cl a 4 2 t w') B m cl a w ((turn_ok N B V size A n m MBk vl st cl a 1 4 2 w h hc hw ha).mono fun e w' ⟨t, h1, h2⟩ => ⟨_, _, h1, t, h1, h2⟩)).mono fun e w' ⟨_, _, _, hh⟩ => hh
end Go.Proofs.YtbkaemajjaiklaaGreat

/- SlabPlays: any act of the game; a game begun. -/
namespace Go.Proofs.YtbkaemajjaiklaaGreat
open Go.RowKit
set_option linter.unusedVariables false
set_option linter.unusedSimpArgs false

theorem bitAt_lt {bs : List Int} (hb : ∀ x ∈ bs, 0 ≤ x ∧ x < 256) (i : Nat) : bitAt bs i < 18446744073709551616 := by
  unfold bitAt
  have h1 := leW_bounds (bs := (bs.drop (1024 * i + 8)).take 8) (fun x hx => hb x (List.mem_of_mem_drop (List.mem_of_mem_take hx)))
  have h2 : ((bs.drop (1024 * i + 8)).take 8).length ≤ 8 := by rw [List.length_take]; omega
  have h3 : (2 : Int) ^ (8 * ((bs.drop (1024 * i + 8)).take 8).length) ≤ 18446744073709551616 := by
    have h4 : (2 : Nat) ^ (8 * ((bs.drop (1024 * i + 8)).take 8).length) ≤ 2 ^ 64 := Nat.pow_le_pow_right (by decide) (by omega)
    have h5 : ((2 : Nat) ^ 64 : Nat) = 18446744073709551616 := by decide
    have h6 : ((2 ^ (8 * ((bs.drop (1024 * i + 8)).take 8).length) : Nat) : Int) = (2 : Int) ^ (8 * ((bs.drop (1024 * i + 8)).take 8).length) := by push_cast; rfl
    rw [← h6]; omega
  omega
theorem SlabIs.down {w : World} {N N' : Nat} {B : SB} {V : Nat → Value} {size : Int} {A : SA} (h : SlabIs w N B V size A) (hn : N' ≤ N) : SlabIs w N' B V size A :=
  ⟨h.st, h.hdr, h.fre, h.mp, h.apart, fun i k hk => Nat.le_trans hn (h.lo i k hk)⟩
theorem WorldIs.down {w : World} {N N' g : Nat} {size : Int} {cs : List Int} {ls : List (Int × Int)} {vC vL : Value} (h : WorldIs w N g size cs ls vC vL) (hn : N' ≤ N) : WorldIs w N' g size cs ls vC vL :=
  ⟨h.blk, own_down h.rc hn, own_down h.rl hn, Nat.le_trans hn h.lo, h.nc, h.nl, h.ncl⟩
/-- a game at its beginning -/
def beginG (bs : List Int) (n : Nat) : GA := ⟨⟨wordsOf bs, wordsOf bs, []⟩, ofTo bs n n, refC bs n, refL bs n, []⟩

end Go.Proofs.YtbkaemajjaiklaaGreat
