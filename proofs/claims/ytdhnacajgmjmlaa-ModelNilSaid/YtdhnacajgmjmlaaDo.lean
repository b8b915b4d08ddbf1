/- Do of the map, Do of the document: one answer; both side by side. -/
import Derived.Test.YtdhnacajgmjmlaaMapH
import Derived.Test.YtdhnacajgmjmlaaRCopy
namespace Go.Proofs.Ytdhnacajgmjmlaa
open Go.RowKit
set_option linter.unusedVariables false
set_option linter.unusedSimpArgs false

def doC (op key hi lim : Int) (n : Nat) (ps : PairL) : Int := if mayZ op key hi lim n ≠ 0 then mayZ op key hi lim n else if op = 2 ∨ op = 3 then errGet key ps else 0
def doV (op key hi lim : Int) (n : Nat) (ps : PairL) : ByteArray := if mayZ op key hi lim n = 0 ∧ op = 2 then getM key ps else ⟨#[]⟩
def doP (op key hi lim : Int) (n : Nat) (ps : PairL) : PairL := if mayZ op key hi lim n = 0 ∧ op = 4 then scanL key hi lim ps else []
def doN (op key hi lim : Int) (s : ByteArray) (ps : PairL) : PairL := if mayZ op key hi lim s.size = 0 ∧ op = 1 then putM key s ps else if mayZ op key hi lim s.size = 0 ∧ op = 3 then delM key ps else ps
theorem may_cases {op key hi lim : Int} {n : Nat} (h : mayZ op key hi lim n = 0) : (op = 1 ∧ n ≤ 120) ∨ op = 2 ∨ op = 3 ∨ (op = 4 ∧ boundsErr key hi lim = 0) := by
  by_cases h4 : op = 4
  · subst h4; rw [bounds_may] at h; exact Or.inr (Or.inr (Or.inr ⟨rfl, h⟩))
  · unfold mayZ at h
    by_cases h0 : op < 1 ∨ op > 4
    · rw [if_pos h0] at h; omega
    · rw [if_neg h0, if_neg (by omega)] at h
      by_cases h1 : op = 1 ∧ 120 < n
      · rw [if_pos h1] at h; omega
      · omega
theorem do_bad {op key hi lim : Int} {s : ByteArray} (ps : PairL) (h : mayZ op key hi lim s.size ≠ 0) : doC op key hi lim s.size ps = mayZ op key hi lim s.size ∧ doV op key hi lim s.size ps = ⟨#[]⟩ ∧ doP op key hi lim s.size ps = [] ∧ doN op key hi lim s ps = ps := by
  refine ⟨if_pos h, if_neg (fun x => h x.1), if_neg (fun x => h x.1), ?_⟩
  unfold doN; rw [if_neg (fun x => h x.1), if_neg (fun x => h x.1)]
theorem do_put {key hi lim : Int} {s : ByteArray} (ps : PairL) (h : mayZ 1 key hi lim s.size = 0) : doC 1 key hi lim s.size ps = 0 ∧ doV 1 key hi lim s.size ps = ⟨#[]⟩ ∧ doP 1 key hi lim s.size ps = [] ∧ doN 1 key hi lim s ps = putM key s ps := by
  refine ⟨?_, if_neg (by omega), if_neg (by omega), if_pos ⟨h, rfl⟩⟩
  unfold doC; rw [if_neg (by omega), if_neg (by omega)]
theorem do_get {key hi lim : Int} {s : ByteArray} (ps : PairL) (h : mayZ 2 key hi lim s.size = 0) : doC 2 key hi lim s.size ps = errGet key ps ∧ doV 2 key hi lim s.size ps = getM key ps ∧ doP 2 key hi lim s.size ps = [] ∧ doN 2 key hi lim s ps = ps := by
  refine ⟨?_, if_pos ⟨h, rfl⟩, if_neg (by omega), ?_⟩
  · unfold doC; rw [if_neg (by omega), if_pos (by omega)]
  · unfold doN; rw [if_neg (by omega), if_neg (by omega)]
theorem do_del {key hi lim : Int} {s : ByteArray} (ps : PairL) (h : mayZ 3 key hi lim s.size = 0) : doC 3 key hi lim s.size ps = errGet key ps ∧ doV 3 key hi lim s.size ps = ⟨#[]⟩ ∧ doP 3 key hi lim s.size ps = [] ∧ doN 3 key hi lim s ps = delM key ps := by
  refine ⟨?_, if_neg (by omega), if_neg (by omega), ?_⟩
  · unfold doC; rw [if_neg (by omega), if_pos (by omega)]
  · unfold doN; rw [if_neg (by omega), if_pos ⟨h, rfl⟩]
theorem do_scan {key hi lim : Int} {s : ByteArray} (ps : PairL) (h : mayZ 4 key hi lim s.size = 0) : doC 4 key hi lim s.size ps = 0 ∧ doV 4 key hi lim s.size ps = ⟨#[]⟩ ∧ doP 4 key hi lim s.size ps = scanL key hi lim ps ∧ doN 4 key hi lim s ps = ps := by
  refine ⟨?_, if_neg (by omega), if_pos ⟨h, rfl⟩, ?_⟩
  · unfold doC; rw [if_neg (by omega), if_neg (by omega)]
  · unfold doN; rw [if_neg (by omega), if_neg (by omega)]

theorem Do_z (m : Nat) (v : Value) (op key hi lim : Int) (s : ByteArray) (ps : PairL) (w : World) (h : MapIs w m v ps) (hn : ps.length + 1 ≤ 1000000) :
    Calls Try.prog 38 #[.pointer (some ⟨m, 0, none⟩), .agg #[.int .i64 op, .int .u64 key, .int .u64 hi, .int .i64 lim, .string s]] w (RespPost w m v (doN op key hi lim s ps) (doC op key hi lim s.size ps) (doV op key hi lim s.size ps) (doP op key hi lim s.size ps)) := by
  by_cases h0 : mayZ op key hi lim s.size = 0
  · rcases may_cases h0 with ⟨rfl, hs⟩ | rfl | rfl | ⟨rfl, hb⟩
    · obtain ⟨e1, e2, e3, e4⟩ := do_put ps h0
      rw [e1, e2, e3, e4]
      have := Do_put m v key hi lim s ps w h hn hs
      rw [show putZ key s ps = putM key s ps from if_neg (by omega), show putE s = 0 from if_neg (by omega)] at this
      exact this
    · obtain ⟨e1, e2, e3, e4⟩ := do_get ps h0
      rw [e1, e2, e3, e4]
      exact Do_get m v key hi lim s ps w h
    · obtain ⟨e1, e2, e3, e4⟩ := do_del ps h0
      rw [e1, e2, e3, e4]
      exact Do_del m v key hi lim s ps w h
    · obtain ⟨e1, e2, e3, e4⟩ := do_scan ps h0
      rw [e1, e2, e3, e4]
      exact Do_scan m v key hi lim s ps w h hb
  · obtain ⟨e1, e2, e3, e4⟩ := do_bad ps h0
    rw [e1, e2, e3, e4]
    exact Do_bad m v op key hi lim s ps w h h0

def RDoPost (w : World) (r : Nat) (u : Value) (op key hi lim : Int) (s : ByteArray) (L : RL) (e : Ending) (w' : World) : Prop :=
  ∃ L', absL L' = doN op key hi lim s (absL L) ∧ L'.length ≤ L.length + 1 ∧ RPost w r u L' (doC op key hi lim s.size (absL L)) (doV op key hi lim s.size (absL L)) (doP op key hi lim s.size (absL L)) e w'
theorem RDo_z (r : Nat) (u : Value) (op key hi lim : Int) (s : ByteArray) (L : RL) (w : World) (h : RefIs w r u L) (hn : L.length + 1 ≤ 1000000) :
    Calls Try.prog 22 #[.pointer (some ⟨r, 0, none⟩), .agg #[.int .i64 op, .int .u64 key, .int .u64 hi, .int .i64 lim, .string s]] w (RDoPost w r u op key hi lim s L) := by
  by_cases h0 : mayZ op key hi lim s.size = 0
  · rcases may_cases h0 with ⟨rfl, hs⟩ | rfl | rfl | ⟨rfl, hb⟩
    · obtain ⟨e1, e2, e3, e4⟩ := do_put (absL L) h0
      refine (RDo_put r u key hi lim s L w h hn hs).mono fun e w' hp => ⟨_, (absL_put L key s).trans e4.symm, by simp, ?_⟩
      rw [e1, e2, e3]; exact hp
    · obtain ⟨e1, e2, e3, e4⟩ := do_get (absL L) h0
      by_cases hf : findZ key L < 0
      · refine (RDo_get_no r u key hi lim s L w h hf).mono fun e w' hp => ⟨L, e4.symm, by omega, ?_⟩
        rw [e1, e2, e3]; exact hp
      · refine (RDo_get_yes r u key hi lim s L w h (findZ key L).toNat (by omega)).mono fun e w' hp => ⟨L, e4.symm, by omega, ?_⟩
        rw [e1, e2, e3]; exact hp
    · obtain ⟨e1, e2, e3, e4⟩ := do_del (absL L) h0
      by_cases hf : findZ key L < 0
      · have hpb : placeB key (absL L) = false := by
          cases hx : placeB key (absL L) with
          | false => rfl
          | true => have := (find_there key L).1 hx; omega
        refine (RDo_del_no r u key hi lim s L w h hf).mono fun e w' hp => ⟨L, by rw [e4]; simp [delM, hpb], by omega, ?_⟩
        rw [e1, e2, e3]; exact hp
      · refine (RDo_del_yes r u key hi lim s L w h hn (findZ key L).toNat (by omega)).mono fun e w' hp => ⟨_, (absL_del L key ⟨#[]⟩).trans e4.symm, by simp, ?_⟩
        rw [e1, e2, e3]; exact hp
    · obtain ⟨e1, e2, e3, e4⟩ := do_scan (absL L) h0
      refine (RDo_scan r u key hi lim s L w h hb).mono fun e w' hp => ⟨L, e4.symm, by omega, ?_⟩
      rw [e1, e2, e3]; exact hp
  · obtain ⟨e1, e2, e3, e4⟩ := do_bad (absL L) h0
    refine (RDo_bad r u op key hi lim s L w h h0).mono fun e w' hp => ⟨L, e4.symm, by omega, ?_⟩
    rw [e1, e2, e3]; exact hp

/-- a map and a document's map, both of one's own, apart -/
structure Both (w0 : World) (m : Nat) (v : Value) (ps : PairL) (r : Nat) (u : Value) (L : RL) (w : World) : Prop where
  map : MapIs w m v ps
  ref : RefIs w r u L
  bel : Below w0.heap.size w0 w
  mlow : ∀ k, k ∈ foot m v → w0.heap.size ≤ k
  rlow : ∀ k, k ∈ foot r u → w0.heap.size ≤ k
  far : ∀ k, k ∈ foot m v → k ∉ foot r u
theorem Both.bel' {w0 w w' : World} {m r : Nat} {v u : Value} {ps : PairL} {L : RL} (h : Both w0 m v ps r u L w) (hb : Below w.heap.size w w') : Both w0 m v ps r u L w' :=
  ⟨h.map.bel hb, h.ref.bel hb, bx h.bel hb, h.mlow, h.rlow, h.far⟩
theorem foot_mem {m k : Nat} {v : Value} : k ∈ foot m v ↔ k = m ∨ v.ownBlock = some k := by simp [foot]
theorem Both.mapTurn {w0 w w' : World} {m r : Nat} {v v' u : Value} {ps ps' : PairL} {L : RL} (h : Both w0 m v ps r u L w) (hm : MapIs w' m v' ps') (ho : Only (foot m v) w w') (hown : ∀ k, v'.ownBlock = some k → v.ownBlock = some k ∨ w.heap.size ≤ k) : Both w0 m v' ps' r u L w' := by
  have hk : ∀ k, k ∈ foot m v' → k ∈ foot m v ∨ w.heap.size ≤ k := fun k hk => by
    rcases foot_mem.1 hk with rfl | hk
    · exact Or.inl (foot_mem.2 (Or.inl rfl))
    · rcases hown k hk with h1 | h1
      · exact Or.inl (foot_mem.2 (Or.inr h1))
      · exact Or.inr h1
  refine ⟨hm, h.ref.only ho (fun hx => h.far r hx (foot_mem.2 (Or.inl rfl))) (fun k hk hx => h.far k hx (foot_mem.2 (Or.inr hk))), h.bel.trans (ho.below h.mlow h.bel.size), fun k hx => ?_, h.rlow, fun k hx hr => ?_⟩
  · rcases hk k hx with h1 | h1
    · exact h.mlow k h1
    · exact Nat.le_trans h.bel.size h1
  · rcases hk k hx with h1 | h1
    · exact h.far k h1 hr
    · have := h.ref.foot_lt k hr; omega
theorem Both.refTurn {w0 w w' : World} {m r : Nat} {v u u' : Value} {ps : PairL} {L L' : RL} (h : Both w0 m v ps r u L w) (hr : RefIs w' r u' L') (ho : Only (foot r u) w w') (hown : ∀ k, u'.ownBlock = some k → u.ownBlock = some k ∨ w.heap.size ≤ k) : Both w0 m v ps r u' L' w' := by
  have hk : ∀ k, k ∈ foot r u' → k ∈ foot r u ∨ w.heap.size ≤ k := fun k hk => by
    rcases foot_mem.1 hk with rfl | hk
    · exact Or.inl (foot_mem.2 (Or.inl rfl))
    · rcases hown k hk with h1 | h1
      · exact Or.inl (foot_mem.2 (Or.inr h1))
      · exact Or.inr h1
  refine ⟨h.map.only ho (fun hx => h.far m (foot_mem.2 (Or.inl rfl)) hx) (fun k hk hx => h.far k (foot_mem.2 (Or.inr hk)) hx), hr, h.bel.trans (ho.below h.rlow h.bel.size), h.mlow, fun k hx => ?_, fun k hx hx2 => ?_⟩
  · rcases hk k hx with h1 | h1
    · exact h.rlow k h1
    · exact Nat.le_trans h.bel.size h1
  · rcases hk k hx2 with h1 | h1
    · exact h.far k hx h1
    · have := h.map.foot_lt k hx; omega

end Go.Proofs.Ytdhnacajgmjmlaa
