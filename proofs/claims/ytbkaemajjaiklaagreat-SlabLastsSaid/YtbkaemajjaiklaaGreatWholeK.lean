/- A turn's steps, done whole. -/
import Derived.Test.YtbkaemajjaiklaaGreatPlN
import Derived.Test.YtbkaemajjaiklaaGreatPmT
import Derived.Test.YtbkaemajjaiklaaGreatGameC

namespace Go.Proofs.YtbkaemajjaiklaaGreat
open Go.RowKit
set_option linter.unusedVariables false
set_option linter.unusedSimpArgs false

/-- the blocks behind so many steps of a turn -/
def stepsSA (A : SA) (i j b : Nat) (tb : Int) (ph : Nat) : SA := if ph ≤ 1 then A else hdSA A i (newB tb b j)
def bitS (b j : Nat) (tb : Int) (ph : Nat) : Nat := if ph ≤ 1 then b else newB tb b j
def stepsMA (m : MA) (i c j b : Nat) (tb : Int) (cl : Nat) : Nat → MA
  | 0 => m
  | ph + 1 => nextMA (stepsMA m i c j b tb cl ph) i c j (bitS b j tb ph) tb cl ph
/-- behind ph steps -/
structure WhI (w : World) (N : Nat) (B : SB) (V : Nat → Value) (A : SA) (n m : Nat) (Q : MB) (M : MemS) (K t cl : Nat) (a tb : Int) (i c j b ph : Nat) (W : World) (M' : MemS) (V' : Nat → Value) : Prop where
  work : Work W N B V' (stepsSA A i j b tb ph) n m Q M' (K + ph)
  turn : TurnOK W B V' (stepsSA A i j b tb ph) n m Q M' t cl a tb i c j (bitS b j tb ph) ph
  st : Stept t B V V' m Q M M' w W
  ma : absM M' = stepsMA (absM M) i c j b tb cl ph
theorem Stept.join {t : Nat} {B : SB} {V V1 V2 : Nat → Value} {m : Nat} {Q : MB} {M M1 M2 : MemS} {w w1 w2 : World} (h : Stept t B V V1 m Q M M1 w w1) (k : Stept t B V1 V2 m Q M1 M2 w1 w2) : Stept t B V V2 m Q M M2 w w2 := by
  have hs := h.only.size
  refine ⟨h.only.trans k.only (fun x hx => ?_), fun x hx => ?_, fun x hx => ?_⟩
  · simp only [List.cons_append, List.mem_cons, List.mem_append] at hx ⊢
    rcases hx with rfl | hx | hx
    · exact Or.inl (Or.inl rfl)
    · exact (h.fm x hx).imp (fun hh => Or.inr (Or.inl hh)) id
    · exact (h.fs x hx).imp (fun hh => Or.inr (Or.inr hh)) id
  · rcases k.fm x hx with h1 | h1
    · exact h.fm x h1
    · exact Or.inr (by omega)
  · rcases k.fs x hx with h1 | h1
    · exact h.fs x h1
    · exact Or.inr (by omega)
theorem Stept.refl (t : Nat) (B : SB) (V : Nat → Value) (m : Nat) (Q : MB) (M : MemS) (w : World) : Stept t B V V m Q M M w w := ⟨Only.refl _ _, fun _ h => Or.inl h, fun _ h => Or.inl h⟩
theorem nextSA_steps (A : SA) (i c j b : Nat) (a tb : Int) (ph : Nat) (hp : ph < 3) : nextSA (stepsSA A i j b tb ph) i c j (bitS b j tb ph) a tb ph = stepsSA A i j b tb (ph + 1) := by
  rcases (by omega : ph = 0 ∨ ph = 1 ∨ ph = 2) with rfl | rfl | rfl <;> rfl
theorem WhI.next {w : World} {N : Nat} {B : SB} {V : Nat → Value} {A : SA} {n m : Nat} {Q : MB} {M : MemS} {K t cl : Nat} {a tb : Int} {i c j b ph : Nat} {W W' : World} {M1 M2 : MemS} {V1 V2 : Nat → Value} (h : WhI w N B V A n m Q M K t cl a tb i c j b ph W M1 V1) (hp : ph < 3)
    (hs : StepW W N B V1 (stepsSA A i j b tb ph) n m Q M1 (K + ph) t cl a tb i c j (bitS b j tb ph) ph W' M2 V2) : WhI w N B V A n m Q M K t cl a tb i c j b (ph + 1) W' M2 V2 := by
  have hw := hs.work
  rw [nextSA_steps _ _ _ _ _ _ _ _ hp] at hw
  have ht := h.turn
  have htl := ht.blk.lt
  have hi := ht.i1
  have hl := h.work.hl
  refine ⟨hw, ⟨hs.blk, by omega, fun hm => ?_, fun hm => ?_, ht.ii, ht.i1, ?_, ht.c3, ht.jj, ht.j64, ?_, ?_, ht.aa, ht.cl64, ht.tbb, ?_, ?_⟩, h.st.join hs.st, ?_⟩
  · rcases hs.st.fm _ hm with h1 | h1
    · exact ht.fm h1
    · omega
  · rcases hs.st.fs _ hm with h1 | h1
    · exact ht.fs h1
    · omega
  · have hcc := ht.cc
    unfold stepsSA at hcc ⊢
    split <;> split at hcc <;> simpa [hdSA_cls] using hcc
  · rcases (by omega : ph = 0 ∨ ph = 1 ∨ ph = 2) with rfl | rfl | rfl
    · exact ht.bb
    · show ((A.hd.set i ((A.hd.getD i (0, 0)).1, ((newB tb b j : Nat) : Int))).getD i (0, 0)).2 = _
      have hl' : A.hd.length = 1 + n := h.work.hl
      rw [List.getD_eq_getElem?_getD, List.getElem?_set_self (by omega)]; rfl
    · exact ht.bb
  · have h64 := ht.b64
    unfold bitS at h64 ⊢
    rcases (by omega : ph = 0 ∨ ph = 1 ∨ ph = 2) with rfl | rfl | rfl
    · exact h64
    · exact newB_lt h64 ht.j64
    · exact h64
  · have := ht.is
    unfold stepsSA at this ⊢
    split <;> split at this <;> exact this
  · have := ht.fr
    unfold stepsSA at this ⊢
    split <;> split at this <;> exact this
  · show absM M2 = nextMA (stepsMA (absM M) i c j b tb cl ph) i c j (bitS b j tb ph) tb cl ph
    rw [← h.ma]; exact hs.ma
/-- behind all four -/
structure WhE (w : World) (N : Nat) (B : SB) (V : Nat → Value) (A : SA) (n m : Nat) (Q : MB) (M : MemS) (K t cl : Nat) (a tb : Int) (i c j b : Nat) (W : World) (M' : MemS) (V' : Nat → Value) : Prop where
  work : Work W N B V' (nextSA (stepsSA A i j b tb 3) i c j (bitS b j tb 3) a tb 3) n m Q M' (K + 4)
  blk : Blk W t 162 (turnC B.s m t cl a tb 4)
  st : Stept t B V V' m Q M M' w W
  ma : absM M' = stepsMA (absM M) i c j b tb cl 4

set_option maxRecDepth 100000 in
set_option maxHeartbeats 1000000 in
theorem whole_z (N : Nat) (B : SB) (V : Nat → Value) (A : SA) (n m : Nat) (Q : MB) (M : MemS) (K t cl : Nat) (a tb : Int) (i c j b : Nat) (w : World) (h : Work w N B V A n m Q M K) (hK : K ≤ 100000) (ht : TurnOK w B V A n m Q M t cl a tb i c j b 0) :
    Calls Tryz.prog 42 #[.pointer (some ⟨m, 0, none⟩), .pointer (some ⟨t, 0, none⟩)] w fun e w' => e = .returned (.int .i64 4) ∧ ∃ M' V', WhE w N B V A n m Q M K t cl a tb i c j b w' M' V' := by
  have HI0 := hid (⟨M, V, ⟨h, ht, Stept.refl _ _ _ _ _ _ _, rfl⟩⟩ : ∃ M' V', WhI w N B V A n m Q M K t cl a tb i c j b 0 w M' V')
  clear h ht
  go_enter Tryz.func42, Tryz.ntmps42
  go_wp2
  go_loopw [5] (fun iv wr => ∃ ph : Nat, ph ≤ 3 ∧ iv = .int .i64 ((ph : Int) + 1) ∧ Hid (∃ M' V', WhI w N B V A n m Q M K t cl a tb i c j b ph wr M' V')) (fun iv _ => (20 - (intOf iv).toNat))
  case atStart => exact ⟨0, by omega, rfl, HI0⟩
  case round =>
    obtain ⟨ph, hph, rfl, hI⟩ := hrel
    have i1 : (ph : Int) + 1 ≤ 20 := by omega
    obtain ⟨M1, V1, hI1⟩ := hI.out
    have ST := hid (step6_z N B V1 _ n m Q M1 (K + ph) t cl a tb i c j _ ph wr hI1.work (by omega) hI1.turn)
    have HI1 := hid hI1
    have HPH := hid hph
    clear hI1 hI hph
    by_cases h3 : ph = 3
    · subst h3
      go_wp2_with fail
      refine ST.out.mono ?_
      rintro e w2 ⟨rfl, M2, V2, hs⟩
      have HE := hid (⟨hs.work, hs.blk, HI1.out.st.join hs.st, by
        show absM M2 = nextMA (stepsMA (absM M) i c j b tb cl 3) i c j (bitS b j tb 3) tb cl 3
        rw [← HI1.out.ma]; exact hs.ma⟩ : WhE w N B V A n m Q M K t cl a tb i c j b w2 M2 V2)
      clear hs
      go_wp2
      go_ret
      exact ⟨rfl, M2, V2, HE.out⟩
    · have hd : decide (ph = 3) = false := decide_eq_false h3
      rw [hd] at ST
      have HL := hid (show ph < 3 by have := HPH.out; omega)
      clear h3 hd
      go_wp2_with fail
      refine ST.out.mono ?_
      rintro e w2 ⟨rfl, M2, V2, hs⟩
      have HN := hid (⟨M2, V2, HI1.out.next HL.out hs⟩ : ∃ M' V', WhI w N B V A n m Q M K t cl a tb i c j b (ph + 1) w2 M' V')
      clear hs
      go_wp2
      go_roundw
      case rel => exact ⟨ph + 1, HL.out, by go_num, HN⟩
      case measure => simp [intOf]; have := HL.out; omega

end Go.Proofs.YtbkaemajjaiklaaGreat

/- The chapter's rows of layer 6 (known), by contracts. -/
namespace Go.Proofs.YtbkaemajjaiklaaGreat
open Go.RowKit
set_option linter.unusedVariables false
set_option linter.unusedSimpArgs false

def k6A0 : SA := ⟨[(0, 0), (0, 0), (0, 0)], fun _ => [], []⟩
def k6A1 : SA := takeSA (giveSA k6A0 1 1) 1
def k6A2 : SA := takeSA (giveSA k6A1 2 3) 3
def k6A3 : SA := { k6A2 with is := isSet k6A2.is 1088 4 }
def k6m0 : MA := ⟨List.replicate 384 0, List.replicate 384 0, []⟩
def k6m4 : MA := stepsMA k6m0 1 1 0 0 2 0 4
theorem bytesW_zeros (n : Nat) : bytesW (List.replicate n 0) = List.replicate (8 * n) 0 := by
  induction n with
  | zero => rfl
  | succ n ih => rw [List.replicate_succ, show bytesW (0 :: List.replicate n 0) = wB 0 ++ bytesW (List.replicate n 0) from rfl, ih, show wB 0 = List.replicate 8 0 from rfl, List.replicate_append_replicate]; congr 1; omega
theorem clsAt_zeros (n i : Nat) : clsAt (List.replicate n 0) i = 0 := by
  unfold clsAt; rw [List.drop_replicate, List.take_replicate, leW_zeros]; rfl
theorem bitAt_zeros (n i : Nat) : bitAt (List.replicate n 0) i = 0 := by
  unfold bitAt; rw [List.drop_replicate, List.take_replicate, leW_zeros]; rfl
theorem k6_ofTo : ofTo (List.replicate 3072 0) 2 2 = k6A0 := by
  show oneSA (oneSA (newSA 2) 1 (clsAt (List.replicate 3072 0) 1) (bitAt (List.replicate 3072 0) 1)) 2 (clsAt (List.replicate 3072 0) 2) (bitAt (List.replicate 3072 0) 2) = k6A0
  rw [clsAt_zeros, clsAt_zeros, bitAt_zeros, bitAt_zeros]
  kernel_rfl
theorem k6_heads : ∀ i, 1 ≤ i → i ≤ 2 → headOK (List.replicate 3072 0) i = true := by
  intro i _ _
  unfold headOK
  rw [clsAt_zeros, bitAt_zeros]
  kernel_rfl
theorem k6_a1 : at0 ((giveSA k6A0 1 1).fr 1) 0 = 1088 := by kernel_rfl
theorem k6_a2 : at0 ((giveSA k6A1 2 3).fr 3) 0 = 2112 := by kernel_rfl
theorem k6_f1 : k6A0.fr 1 = [] := rfl
theorem k6_f3 : k6A1.fr 3 = [] := by kernel_rfl
theorem k6_f2 : k6A2.fr 2 = [] := by kernel_rfl
theorem k6_h1 : k6A1.hd = [(0, 0), (1, 0), (0, 0)] := by kernel_rfl
theorem k6_h2 : k6A2.hd = [(0, 0), (1, 0), (3, 0)] := by kernel_rfl
theorem k6_i2 : isGet k6A2.is 1088 = 1 := by kernel_rfl
theorem k6_i4 : isGet (nextSA (stepsSA k6A3 1 0 0 2 3) 1 1 0 (bitS 0 0 2 3) 1088 2 3).is 1088 = 2 := by kernel_rfl
theorem k6_im0 : k6m4.image[128]? = some 1 := by kernel_rfl
theorem k6_im1 : k6m4.image[129]? = some 1 := by kernel_rfl
theorem k6_iml : k6m4.image.length = 384 := by kernel_rfl
theorem k6_imr : k6m4.image.all (fun x => decide (0 ≤ x ∧ x < 18446744073709551616)) = true := by kernel_rfl
theorem bytesW_get {ws : List Int} : ∀ {k : Nat} {x : Int} (j : Nat), ws[k]? = some x → j < 8 → (bytesW ws)[8 * k + j]? = some (x / 256 ^ j % 256) := by
  induction ws with
  | nil => intro k x j h; cases h
  | cons y ws ih =>
    intro k x j h hj
    have e : bytesW (y :: ws) = wB y ++ bytesW ws := rfl
    rw [e]
    cases k with
    | zero =>
      obtain rfl : y = x := by simpa using h
      rw [List.getElem?_append_left (by rw [wB_len]; omega)]
      unfold wB
      rw [List.getElem?_map, List.getElem?_range (by omega)]
      simp
    | succ k =>
      rw [List.getElem?_append_right (by rw [wB_len]; omega), wB_len, show 8 * (k + 1) + j - 8 = 8 * k + j by omega]
      exact ih j (by simpa using h) hj

/-- reserved where no slab of the class has a free block -/
theorem rsv_new {w w' : World} {N : Nat} {B : SB} {V : Nat → Value} {size : Int} {A : SA} {c j : Nat} {e : Ending} (h : RsvPost w N B V size A c e w') (h0 : A.fr c = []) (hj : j + 1 < A.hd.length) (hz : A.hd[j + 1].1 = 0) (hf : ∀ j' (hj' : j' + 1 < A.hd.length), j' < j → A.hd[j' + 1].1 ≠ 0) :
    e = .returned (.tuple #[.int .u64 (at0 ((giveSA A (j + 1) c).fr c) 0), .int .i64 0]) ∧ ∃ V', SlabIs w' N B V' size (takeSA (giveSA A (j + 1) c) c) ∧ Moved B V V' w w' := by
  rcases h.ok with ⟨A', V', hA, he, h1, h2⟩ | ⟨_, h1, _⟩
  · rcases hA with ⟨rfl, hne⟩ | ⟨_, j', hj', hz', rfl, hf'⟩
    · exact absurd h0 hne
    · have : j' = j := by
        rcases Nat.lt_trichotomy j' j with h3 | h3 | h3
        · exact absurd hz' (hf j' hj' h3)
        · exact h3
        · exact absurd hz (hf' j hj h3)
      subst this
      exact ⟨he, V', h1, h2⟩
  · exact absurd hz (h1 j hj)
theorem rsv_full {w w' : World} {N : Nat} {B : SB} {V : Nat → Value} {size : Int} {A : SA} {c : Nat} {e : Ending} (h : RsvPost w N B V size A c e w') (h0 : A.fr c = []) (hf : ∀ j (hj : j + 1 < A.hd.length), A.hd[j + 1].1 ≠ 0) :
    e = .returned (.tuple #[.int .u64 0, .int .i64 4]) ∧ SlabIs w' N B V size A ∧ Moved B V V w w' := by
  rcases h.ok with ⟨A', V', hA, he, h1, h2⟩ | ⟨_, _, h1, h2, h3⟩
  · rcases hA with ⟨rfl, hne⟩ | ⟨_, j', hj', hz', rfl, hf'⟩
    · exact absurd h0 hne
    · exact absurd hz' (hf j' hj')
  · exact ⟨h1, h2, h3⟩
theorem hd_at {l l' : List (Int × Int)} (h : l = l') {j : Nat} (hj : j < l.length) : l[j].1 = (l'.getD j (0, 0)).1 := by
  subst h; rw [List.getD_eq_getElem?_getD, List.getElem?_eq_getElem hj]; rfl
/-- the memory and the blocks, apart -/
structure K6 (w : World) (N : Nat) (B : SB) (V : Nat → Value) (A : SA) (m : Nat) (Q : MB) (M : MemS) (W : World) : Prop where
  work : Work W N B V A 2 m Q M 0
  bel : Below w.heap.size w W
  lo : w.heap.size ≤ N
  loM : ∀ k ∈ footM m Q M, w.heap.size ≤ k
theorem K6.moved {w : World} {N : Nat} {B : SB} {V V' : Nat → Value} {A A' : SA} {m : Nat} {Q : MB} {M : MemS} {W W' : World} (h : K6 w N B V A m Q M W) (hs : SlabIs W' N B V' ((8 * M.view.length : Nat) : Int) A') (hm : Moved B V V' W W') (hl : A'.hd.length = A.hd.length) : K6 w N B V' A' m Q M W' :=
  ⟨h.work.moved hs hm hl, h.bel.trans (hm.only.below (fun k hk => by obtain ⟨i, hi⟩ := foot_mem.1 hk; exact Nat.le_trans h.lo (h.work.sl.lo i k hi)) h.bel.size), h.lo, h.loM⟩

set_option maxRecDepth 100000 in
set_option maxHeartbeats 4000000 in
theorem known6_z (w : World) : Calls Tryz.prog 8 #[] w fun e w' => e = .returned (.bool true) ∧ Below w.heap.size w w' := by
  have HNW := hid (New_m 3072 (by decide) w)
  have e3072 : ((3072 : Nat) : Int) = 3072 := rfl
  rw [e3072] at HNW
  go_enter Tryz.func8, Tryz.ntmps8
  go_wp2_with fail
  refine HNW.out.mono ?_
  rintro e w1 ⟨m, Q, rfl, m1, m2, m3⟩
  have M1 := hid (⟨m1, m2, m3⟩ : _ ∧ _ ∧ _)
  clear m1 m2 m3
  go_wp2_with fail
  refine (Image_z m Q _ w1 M1.out.1 (fun x hx => by have := List.eq_of_mem_replicate hx; omega)).mono ?_
  rintro e w2 ⟨p, c, rfl, p1, p2, p3⟩
  have hbe : bytesW (freshM (List.replicate (3072 / 8) 0)).image = List.replicate 3072 0 := bytesW_zeros 384
  rw [hbe] at p1 ⊢
  have P := hid (⟨p1, p2, p3⟩ : _ ∧ _ ∧ _)
  have SO := hid (callsIn_wide.1 (SOf_in p c (List.replicate 3072 0) 2 (by decide) (by rw [List.length_replicate]) w2 p1))
  rw [List.length_replicate] at SO ⊢
  clear p1 p2 p3 hbe
  go_wp2_with fail
  refine SO.out.mono ?_
  rintro e w3 hp
  obtain ⟨B, V, rfl, s1⟩ := hp.yes k6_heads
  rw [k6_ofTo] at s1
  have hb3 := hp.bel
  have HK0 := hid (by
    have o2 : Only [] w1 w2 := Only.of_below P.out.2.2 []
    have o3 : Only [] w2 w3 := Only.of_below hb3 []
    have z1 := M1.out.2.1.size
    have z2 := P.out.2.2.size
    refine ⟨⟨s1, rfl, by decide, ⟨(M1.out.1.only o2 (by simp)).only o3 (by simp), fun L hL => (by cases hL), by decide⟩, rfl, fun k hk hf => ?_, hb3.size⟩, (M1.out.2.1.trans (P.out.2.2.mono z1)).trans (hb3.mono (by omega)), by omega, fun k hk => Nat.le_of_lt (M1.out.2.2 k hk)⟩
    obtain ⟨i, hi⟩ := foot_mem.1 hf
    have h1 := s1.lo i k hi
    have h2 := M1.out.1.foot_lt k hk
    omega : K6 w w2.heap.size B V k6A0 m Q (freshM (List.replicate (3072 / 8) 0)) w3)
  clear hp s1 hb3
  go_wp2_with fail
  refine (Reserve_z w2.heap.size B V _ k6A0 1 2 w3 HK0.out.work.sl HK0.out.work.lo rfl (by decide) (by decide) (by decide)).mono ?_
  intro e w4 hr1
  obtain ⟨rfl, V1, r1, r2⟩ := rsv_new (j := 0) hr1 k6_f1 (by decide) rfl (fun j' _ h => absurd h (Nat.not_lt_zero _))
  rw [k6_a1]
  have HK1 := hid (HK0.out.moved r1 r2 (by kernel_rfl) : K6 w w2.heap.size B V1 k6A1 m Q _ w4)
  clear hr1 r1 r2
  go_wp2_with fail
  refine (Reserve_z w2.heap.size B V1 _ k6A1 3 2 w4 HK1.out.work.sl HK1.out.work.lo (by kernel_rfl) (by decide) (by decide) (by rw [k6_f3]; decide)).mono ?_
  intro e w5 hr1
  obtain ⟨rfl, V2, r1, r2⟩ := rsv_new (j := 1) hr1 k6_f3 (by rw [k6_h1]; decide) (by rw [hd_at k6_h1]; rfl) (fun j' _ h => by
    obtain rfl : j' = 0 := by omega
    rw [hd_at k6_h1]; decide)
  rw [k6_a2]
  have HK2 := hid (HK1.out.moved r1 r2 (by kernel_rfl) : K6 w w2.heap.size B V2 k6A2 m Q _ w5)
  clear hr1 r1 r2
  go_wp2_with fail
  refine (Reserve_z w2.heap.size B V2 _ k6A2 2 2 w5 HK2.out.work.sl HK2.out.work.lo (by kernel_rfl) (by decide) (by decide) (by rw [k6_f2]; decide)).mono ?_
  intro e w6 hr1
  obtain ⟨rfl, r1, r2⟩ := rsv_full hr1 k6_f2 (fun j hj => by
    rw [k6_h2] at hj
    rcases (by simp at hj; omega : j = 0 ∨ j = 1) with rfl | rfl
    · rw [hd_at k6_h2]; decide
    · rw [hd_at k6_h2]; decide)
  have HK3 := hid (HK2.out.moved r1 r2 rfl)
  clear hr1 r1 r2
  have PB := hid (Publish_ok w2.heap.size B V2 _ k6A2 2 m Q _ (freshM (List.replicate (3072 / 8) 0)).st 0 1088 w6 ⟨HK3.out.work.sl, HK3.out.work.hl, HK3.out.work.hn, HK3.out.work.mem.is.blk, by decide, rfl⟩ (by decide) k6_i2 (by decide))
  go_wp2_with fail
  refine PB.out.mono ?_
  rintro e w7 ⟨t, rfl, ht⟩
  have hz6 := ht.only.size
  have K4 := HK3.out.moved ht.sl (Moved.putM ht.only) rfl
  have hM : ∀ k ∈ footM m Q (freshM (List.replicate (3072 / 8) 0)), k < w6.heap.size := HK3.out.work.mem.is.foot_lt
  have hF : ∀ k ∈ foot B V2, k < w6.heap.size := HK3.out.work.foot_lt
  have htn := ht.new
  have HTK := hid (⟨ht.blk, by decide, fun hm => by have := hM t hm; omega, fun hm => by have := hF t hm; omega, by kernel_rfl, by decide, by kernel_rfl, by decide, by kernel_rfl, by decide, by kernel_rfl, by decide, by decide, by decide, by decide, isSet_has _ _ _, by decide⟩ : TurnOK w7 B V2 k6A3 2 m Q (freshM (List.replicate (3072 / 8) 0)) t 0 1088 2 1 1 0 0 0)
  have HK4 := hid (K4 : K6 w w2.heap.size B V2 k6A3 m Q _ w7)
  have HTN := hid (Nat.le_trans HK3.out.bel.size htn)
  clear K4 hM hF htn ht hz6
  have WH := hid (whole_z w2.heap.size B V2 k6A3 2 m Q _ 0 t 0 1088 2 1 1 0 0 w7 HK4.out.work (by decide) HTK.out)
  go_wp2_with fail
  refine WH.out.mono ?_
  rintro e w8 ⟨rfl, M', V', we⟩
  have HE := hid we
  have HB8 := hid (HK4.out.bel.trans (we.st.only.below (fun k hk => by
    simp only [List.cons_append, List.mem_cons, List.mem_append] at hk
    rcases hk with rfl | hk | hk
    · exact HTN.out
    · exact HK4.out.loM k hk
    · obtain ⟨i, hi⟩ := foot_mem.1 hk
      exact Nat.le_trans HK4.out.lo (HK4.out.work.sl.lo i k hi)) HK4.out.bel.size))
  have IS := Is_z w2.heap.size B V' _ _ 1088 2 w8 we.work.sl we.work.hl we.work.hn
  rw [k6_i4] at IS
  have HIS := hid IS
  have hma : M'.image = k6m4.image := congrArg MA.image we.ma
  have IM := Image_z m Q M' w8 we.work.mem.is (fun x hx => by
    rw [hma] at hx
    have := List.all_eq_true.1 k6_imr x hx
    simpa using this)
  rw [hma, bytesW_len, k6_iml] at IM
  have HIM := hid IM
  clear we IS hma IM
  go_wp2_with fail
  refine HIS.out.mono ?_
  rintro e w9 ⟨rfl, rfl⟩
  go_wp2_with fail
  refine HIM.out.mono ?_
  rintro e w10 ⟨p', c', rfl, q1, q2, q3⟩
  obtain ⟨g, off, rfl, _, qc⟩ := q1.2.2 (by rw [bytesW_len, k6_iml]; decide)
  have c0 := qc 1024 _ (bytesW_get (k := 128) 0 k6_im0 (by decide))
  have c1 := qc 1032 _ (bytesW_get (k := 129) 0 k6_im1 (by decide))
  have c0' : w10.cell? ⟨g, off + 1024, none⟩ = some (.int .u8 1) := c0
  have c1' : w10.cell? ⟨g, off + 1032, none⟩ = some (.int .u8 1) := c1
  have HF := hid (HB8.out.trans (q3.mono HB8.out.size))
  clear q1 q2 q3 qc c0 c1
  go_wp2
  go_ret
  exact ⟨rfl, HF.out⟩

end Go.Proofs.YtbkaemajjaiklaaGreat
