/- New: a map behind Puts; the document's Copy. -/
import Derived.Test.YtdhnacajgmjmlaaRefF
namespace Go.Proofs.Ytdhnacajgmjmlaa
open Go.RowKit
set_option linter.unusedVariables false
set_option linter.unusedSimpArgs false

def newL (ps : PairL) : PairL := ps.foldl (fun acc p => putZ p.1 p.2 acc) []
theorem newL_nil : newL [] = [] := rfl
theorem newL_snoc (ps : PairL) (p : Int × ByteArray) : newL (ps ++ [p]) = putZ p.1 p.2 (newL ps) := by simp [newL, List.foldl_append]
theorem putZ_length (k : Int) (s : ByteArray) (ps : PairL) : (putZ k s ps).length ≤ ps.length + 1 := by
  unfold putZ; split
  · omega
  · exact putM_length k s ps
theorem newL_length (ps : PairL) : (newL ps).length ≤ ps.length := by
  refine snocRec (P := fun ps => (newL ps).length ≤ ps.length) (by simp [newL]) (fun L p h => ?_) ps
  rw [newL_snoc, List.length_append]
  have := putZ_length p.1 p.2 (newL L)
  simp; omega

/-- a map of one's own -/
structure OwnMap (w0 : World) (m : Nat) (v : Value) (ps : PairL) (w : World) : Prop where
  map : MapIs w m v ps
  bel : Below w0.heap.size w0 w
  low : ∀ k, k ∈ foot m v → w0.heap.size ≤ k
theorem OwnMap.bel' {w0 w w' : World} {m : Nat} {v : Value} {ps : PairL} (h : OwnMap w0 m v ps w) (hb : Below w.heap.size w w') : OwnMap w0 m v ps w' :=
  ⟨h.map.bel hb, bx h.bel hb, h.low⟩
theorem OwnMap.post {w0 w w' : World} {m : Nat} {v res : Value} {ps ps' : PairL} {e : Ending} (h : OwnMap w0 m v ps w) (hp : MapPost w m v ps' res e w') : e = .returned res ∧ ∃ v', OwnMap w0 m v' ps' w' := by
  obtain ⟨v', rfl, hm, ho, hown⟩ := hp
  refine ⟨rfl, v', hm, h.bel.trans (ho.below h.low h.bel.size), fun k hk => ?_⟩
  simp only [foot, List.mem_cons, Option.mem_toList] at hk
  rcases hk with rfl | hk
  · exact h.low _ (by simp [foot])
  · rcases hown k hk with h1 | h1
    · exact h.low k (by simp [foot, h1])
    · exact Nat.le_trans h.bel.size h1

theorem MapIs.new (w : World) : MapIs (w.alloc (.cells #[.slice none 0 0] 100)) w.heap.size (.slice none 0 0) [] :=
  ⟨Blk.new _ _ _, ⟨rfl, Or.inl ⟨rfl, rfl⟩⟩, rises_nil, by simp⟩

def NewPost (w : World) (ps : PairL) (e : Ending) (w' : World) : Prop := ∃ m v, e = .returned (.pointer (some ⟨m, 0, none⟩)) ∧ OwnMap w m v ps w'

set_option maxRecDepth 100000 in
set_option maxHeartbeats 1000000 in
theorem New_nil (w : World) : Calls Try.prog 23 #[.slice none 0 0] w (NewPost w []) := by
  go_enter Try.func23, Try.ntmps23
  go_wp2_with fail
  go_loopw [10] (fun i wr => i = .int .i64 0 ∧ wr = w.alloc (.cells #[.slice none 0 0] 100)) (fun _ _ => 0)
  case atStart => exact ⟨rfl, rfl⟩
  case round =>
    obtain ⟨rfl, rfl⟩ := hrel
    go_wp2
    go_ret
    exact ⟨_, _, rfl, MapIs.new w, ba (Below.refl _ _) _, by simp [foot, Value.ownBlock]⟩

set_option maxRecDepth 100000 in
set_option maxHeartbeats 1000000 in
theorem New_some (g n cap : Nat) (ps : PairL) (w : World) (h : w.ownsRow 0 52 2 (.slice (some ⟨g, 0, none⟩) n cap) n (pc ps)) (hl : ps.length = n) (hn : n ≤ 1000) :
    Calls Try.prog 23 #[.slice (some ⟨g, 0, none⟩) n cap] w (NewPost w (newL ps)) := by
  have HH := hid h
  have HL := hid hl
  have hg := row_lt h g rfl
  clear h hl
  go_enter Try.func23, Try.ntmps23
  go_wp2_with fail
  go_loopw [10] (fun i wr => ∃ (k : Nat) (v : Value), k ≤ n ∧ i = .int .i64 k ∧ Hid (OwnMap w w.heap.size v (newL (ps.take k)) wr)) (fun i _ => (n - (intOf i).toNat))
  case atStart => exact ⟨0, _, by omega, rfl, ⟨MapIs.new w, ba (Below.refl _ _) _, by simp [foot, Value.ownBlock]⟩⟩
  case round =>
    obtain ⟨k, v, hk, rfl, hS⟩ := hrel
    by_cases hlt : k < n
    · have hkl : k < ps.length := by have := HL.out; omega
      have hrow := (row_zero HH.out)
      have hrow2 := (Only.of_below hS.out.bel []).own hrow (fun _ _ => by simp)
      obtain ⟨z0, z1⟩ := row_at hrow2 HL.out k hkl
      obtain ⟨K, hK⟩ : ∃ K, K = ps[k].1 := ⟨_, rfl⟩
      obtain ⟨S, hSS⟩ : ∃ S, S = ps[k].2 := ⟨_, rfl⟩
      rw [← hK] at z0
      rw [← hSS] at z1
      have hT := hid (show newL (ps.take (k + 1)) = putZ K S (newL (ps.take k)) by rw [List.take_succ_eq_append_getElem hkl, newL_snoc, hK, hSS])
      have hgw : g < wr.heap.size := by have := hS.out.bel.size; omega
      have i1 : (0 : Int) ≤ (k : Int) := by omega
      have i2 : (k : Int) < (n : Int) := by omega
      have hfew : (newL (ps.take k)).length + 1 ≤ 1000000 := by have := newL_length (ps.take k); simp at this; omega
      clear hK hSS hrow hrow2
      go_wp2_with fail
      refine (Put_z w.heap.size v K S _ _ (hS.out.map.bel (by (repeat (first | exact Below.refl _ _ | (refine ba ?_ _) | (refine Below.drew ?_) | (refine below_drewN ?_ _) | (refine Below.alloc ?_ (by first | omega | (simp; done) | (simp; omega)) _) | (refine Below.setCell ?_ (by first | omega | (simp; done) | (simp; omega)) _) | (refine bx ?_ (by assumption)) | (refine Below.trans ?_ (Below.mono (by assumption) (by first | omega | (simp; done) | (simp; omega)))))))) hfew).mono ?_
      intro e w2 hp
      obtain ⟨rfl, v', ho'⟩ := (hS.out.bel' (w' := wr.alloc (.cells #[.int .u64 K, .string S] 52)) (ba (Below.refl _ _) _)).post hp
      have hS' : Hid (OwnMap w w.heap.size v' (newL (ps.take (k + 1))) w2) := by rw [hT.out]; exact ho'
      clear hS ho' hp
      go_wp2
      go_roundw
      case rel => exact ⟨k + 1, v', by omega, by go_num, hS'⟩
      case measure => simp [intOf]; omega
    · obtain rfl : k = n := by omega
      have hT : Hid (OwnMap w w.heap.size v (newL ps) wr) := by have := hS.out; rw [List.take_of_length_le (by have := HL.out; omega)] at this; exact this
      clear hS
      go_wp2
      go_ret
      exact ⟨_, _, rfl, hT.out⟩

theorem New_z (v : Value) (ps : PairL) (w : World) (h : w.ownsRow 0 52 2 v ps.length (pc ps)) (hn : ps.length ≤ 1000) : Calls Try.prog 23 #[v] w (NewPost w (newL ps)) := by
  rcases h.2 with ⟨rfl, h0⟩ | ⟨g, cap, cur, rfl, _⟩
  · obtain rfl : ps = [] := List.eq_nil_of_length_eq_zero h0
    exact New_nil w
  · exact New_some g ps.length cap ps w h rfl hn

end Go.Proofs.Ytdhnacajgmjmlaa
