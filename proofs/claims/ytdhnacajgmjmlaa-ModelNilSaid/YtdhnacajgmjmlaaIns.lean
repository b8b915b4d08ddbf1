/- slices.Insert of one pair, slices.Delete of one, slices.Clone, slices.Equal, at []api.Pair. -/
import Derived.Test.YtdhnacajgmjmlaaRow
import Derived.Deep.AppendLies
namespace Go.Proofs.Ytdhnacajgmjmlaa
open Go.RowKit
set_option linter.unusedVariables false

theorem infoPair : (Try.prog.info? 52).map (fun i => (i.zero, i.size, i.bytes)) = some (some (.agg #[.int .u64 0, .string ⟨#[]⟩]), 2, 24) := by kernel_rfl

/-- what an operation on a row leaves: a row of these cells; only the row, or what is new, has turned -/
def RowPost (w : World) (v : Value) (e : TypeId) (size n : Nat) (cs : List Value) (en : Ending) (w' : World) : Prop :=
  ∃ v', en = .returned v' ∧ w'.ownsRow 0 e size v' n cs ∧ w.grownBy w' v.ownBlock ∧ (v'.ownBlock = v.ownBlock ∨ ∃ g, v'.ownBlock = some g ∧ w.heap.size ≤ g)

set_option maxRecDepth 100000 in
set_option maxHeartbeats 1000000 in
theorem Insert_end_nil (b : Nat) (k s : Value) (w : World) (hb : Blk w b 52 #[k, s]) (hk : k.oneCell' = true) (hs : s.oneCell' = true) :
    Calls Try.prog 62 #[.slice none 0 0, .int .i64 0, .slice (some ⟨b, 0, none⟩) 1 1] w (RowPost w (.slice none 0 0) 52 2 1 [k, s]) := by
  obtain ⟨i0, hi, hz0, hz1, hz2⟩ := info_parts infoPair
  have hnews : ∀ j u, [k, s][j]? = some u → w.cell? ((⟨b, 0, none⟩ : Addr).add j) = some u := World.news_of_block hb
  have HN := hid hnews
  have HO := hid (show ∀ u ∈ [k, s], u.oneCell' = true by simp [hk, hs])
  clear hnews
  go_enter Try.func62, Try.ntmps62
  go_wp2_with (at_builtin; go_must (refine wpList_append_own_at _ rfl _ _ 46 rfl 0 52 i0 (.agg #[.int .u64 0, .string ⟨#[]⟩]) 2 24 Try.underlying46 hi hz0 hz1 hz2 rfl (by decide) _ _ _ rfl (World.ownsRow_nil _ _ _ _) ⟨b, 0, none⟩ 1 1 [k, s] rfl rfl HN.out HO.out (by decide) (by decide) (Nat.zero_le _) ?_); intro v' w1 hown' hgrow _ hat)
  go_ret
  exact ⟨v', rfl, by simpa using hown', hgrow, by rcases hat with h | h; exact Or.inl h; exact Or.inr ⟨_, h, Nat.le_refl _⟩⟩

set_option maxRecDepth 100000 in
set_option maxHeartbeats 1000000 in
theorem Insert_end_some (g n cap : Nat) (cs : List Value) (b : Nat) (k s : Value) (w : World) (hown : w.ownsRow 0 52 2 (.slice (some ⟨g, 0, none⟩) n cap) n cs) (hn : n ≤ 1000000) (hc : n ≤ cap) (hm : cap ≤ 9223372036854775807)
    (hb : Blk w b 52 #[k, s]) (hk : k.oneCell' = true) (hs : s.oneCell' = true) :
    Calls Try.prog 62 #[.slice (some ⟨g, 0, none⟩) n cap, .int .i64 n, .slice (some ⟨b, 0, none⟩) 1 1] w (RowPost w (.slice (some ⟨g, 0, none⟩) n cap) 52 2 (n + 1) (cs ++ [k, s])) := by
  obtain ⟨i0, hi, hz0, hz1, hz2⟩ := info_parts infoPair
  have hnews : ∀ j u, [k, s][j]? = some u → w.cell? ((⟨b, 0, none⟩ : Addr).add j) = some u := World.news_of_block hb
  have HN := hid hnews
  have HO := hid (show ∀ u ∈ [k, s], u.oneCell' = true by simp [hk, hs])
  have H3 := hid (show n + 1 ≤ maxLen by unfold maxLen; omega)
  have H4 := hid (show (n + 1) * 24 ≤ 140737488355328 by omega)
  have HW := hid hown
  clear hnews hown hb
  go_enter Try.func62, Try.ntmps62
  go_wp2_with (at_builtin; refine wpList_append_own_at _ rfl _ _ 46 rfl 0 52 i0 (.agg #[.int .u64 0, .string ⟨#[]⟩]) 2 24 Try.underlying46 hi hz0 hz1 hz2 rfl (by decide) _ _ _ rfl HW.out ⟨b, 0, none⟩ 1 1 [k, s] rfl rfl HN.out HO.out H3.out H4.out (Nat.zero_le _) ?_; intro v' w1 hown' hgrow _ hat)
  all_goals
    go_ret
    exact ⟨v', rfl, hown', hgrow, by rcases hat with h | h; exact Or.inl h; exact Or.inr ⟨_, h, Nat.le_refl _⟩⟩

theorem ins_list {α : Type} (L mid ks : List α) (p q : Nat) (hp : p ≤ q) (hL : q + ks.length ≤ L.length) (hmid : mid = (L.drop p).take (q - p)) :
    ((L.take (p + ks.length) ++ mid ++ L.drop (p + ks.length + mid.length)).take p ++ ks ++ (L.take (p + ks.length) ++ mid ++ L.drop (p + ks.length + mid.length)).drop (p + ks.length)).take (q + ks.length) = L.take p ++ ks ++ (L.take q).drop p := by
  have h1 : (L.take (p + ks.length) ++ mid ++ L.drop (p + ks.length + mid.length)).take p = L.take p := by
    rw [List.append_assoc, List.take_append_of_le_length (by simp; omega), List.take_take, Nat.min_eq_left (by omega)]
  have h2 : (L.take (p + ks.length) ++ mid ++ L.drop (p + ks.length + mid.length)).drop (p + ks.length) = mid ++ L.drop (p + ks.length + mid.length) := by
    rw [List.append_assoc, List.drop_append_of_le_length (by simp; omega), List.drop_eq_nil_of_le (by simp; omega)]; rfl
  rw [h1, h2]
  have hml : mid.length = q - p := by rw [hmid]; simp; omega
  have h3 : L.take p ++ ks ++ (mid ++ L.drop (p + ks.length + mid.length)) = (L.take p ++ ks ++ mid) ++ L.drop (p + ks.length + mid.length) := by simp
  rw [h3, List.take_append_of_le_length (by simp [hml]; omega), List.take_of_length_le (by simp [hml]; omega), hmid, List.drop_take]

set_option maxRecDepth 100000 in
set_option maxHeartbeats 2000000 in
theorem Insert_shift (g n cap i : Nat) (cur : Array Value) (b : Nat) (k s : Value) (w : World) (hg : Blk w g 52 cur) (hsz : cur.size = cap * 2) (hn : n ≤ 1000000) (hroom : n + 1 ≤ cap) (hm : cap ≤ 9223372036854775807) (hin : i < n)
    (hb : Blk w b 52 #[k, s]) (hne : b ≠ g) (hk : k.oneCell' = true) (hs : s.oneCell' = true) (h1 : ∀ v ∈ cur.toList.take (n * 2), v.oneCell' = true) :
    Calls Try.prog 62 #[.slice (some ⟨g, 0, none⟩) n cap, .int .i64 i, .slice (some ⟨b, 0, none⟩) 1 1] w (RowPost w (.slice (some ⟨g, 0, none⟩) n cap) 52 2 (n + 1) (cur.toList.take (i * 2) ++ [k, s] ++ (cur.toList.take (n * 2)).drop (i * 2))) := by
  obtain ⟨i0, hi, hz0, hz1, hz2⟩ := info_parts infoPair
  have hz : (Try.prog.info? 52).map (·.size) = some 2 := by rw [hi]; simp [hz1]
  have hx1 : ¬ ((i : Int) = (n : Int)) := by omega
  have hx2 : ((i : Int) == (n : Int)) = false := beq_eq_false_iff_ne.2 hx1
  have hsa : w.shape? b = some (52, 2) := by unfold Blk at hb; simp [World.shape?, hb]
  have hsb : w.shape? g = some (52, cap * 2) := by unfold Blk at hg; simp [World.shape?, hg, hsz]
  have hov : ∀ lb cb, (callFunc 94 #[.slice (some ⟨b, 0, none⟩) 1 1, .slice (some ⟨g, (i + 1) * 2, none⟩) lb cb]).run Try.prog w = .ok (.value (.bool false)) w := fun lb cb => by
    rw [run_callFunc_extern Try.func94 (by kernel_rfl) (by kernel_rfl) (by kernel_rfl) (e := Extern.SlicesOverlaps.overlaps #[46, 46] #[4]) (by kernel_rfl),
      Lib.run_overlaps_apart w 46 4 52 Try.underlying46 2 (fun w => by simp [sizeOf, typeInfo, hi, hz1]) ⟨b, 0, none⟩ ⟨g, (i + 1) * 2, none⟩ 1 1 lb cb hne 52 52 2 (cap * 2) hsa hsb (by omega) (hb.frozen 0) (hb.frozen 2)]
    rfl
  have hfit : (n + 1) * 2 ≤ cur.size := by rw [hsz]; omega
  obtain ⟨mid, hmid⟩ : ∃ mid, mid = (cur.toList.drop (i * 2)).take ((n - i) * 2) := ⟨_, rfl⟩
  have hml : mid.length = (n - i) * 2 := by rw [hmid]; simp; omega
  obtain ⟨cur1, hcur1⟩ : ∃ cur1, cur1 = (cur.toList.take ((i + 1) * 2) ++ mid ++ cur.toList.drop ((i + 1) * 2 + mid.length)).toArray := ⟨_, rfl⟩
  have hcs1 : cur1.size = cur.size := by rw [hcur1]; simp [hml]; omega
  obtain ⟨cur2, hcur2⟩ : ∃ cur2, cur2 = (cur1.toList.take (i * 2) ++ [k, s] ++ cur1.toList.drop (i * 2 + 2)).toArray := ⟨_, rfl⟩
  have hcp1 : ∀ ty dL dc sL sc, dL = n - i → sL = n + 1 - i → (Builtin.copy_ #[46, 46] ty #[.slice (some ⟨g, (i + 1) * 2, none⟩) dL dc, .slice (some ⟨g, i * 2, none⟩) sL sc]).run Try.prog w.drew = .ok (goInt (n - i : Nat)) (w.drew.setRow g cur1) := by
    intro ty dL dc sL sc h3 h4
    subst h3 h4
    have hmin : Nat.min (n + 1 - i) (n - i) = n - i := Nat.min_eq_right (by omega)
    have := run_copy_rowN (P := Try.prog) w.drew 46 46 ty 52 2 g ((i + 1) * 2) (n - i) dc ⟨g, i * 2, none⟩ (n + 1 - i) sc cur 52 mid Try.underlying46 hz hg (by rw [hml, hmin])
      (by rw [hmid]; exact cells_of_blk (w := w.drew) hg _ _) (by rw [hml]; omega) (fun v hv => h1 v (by rw [hmid, show (n - i) * 2 = n * 2 - i * 2 by omega, ← List.drop_take] at hv; exact List.mem_of_mem_drop hv))
    rw [this, hmin, hcur1]
  have hcp2 : ∀ (W : World), Blk W g 52 cur1 → Blk W b 52 #[k, s] → ∀ ty dL dc, 1 ≤ dL → (Builtin.copy_ #[46, 46] ty #[.slice (some ⟨g, i * 2, none⟩) dL dc, .slice (some ⟨b, 0, none⟩) 1 1]).run Try.prog W = .ok (goInt (1 : Nat)) (W.setRow g cur2) := by
    intro W hW hWb ty dL dc h3
    have hmin : Nat.min 1 dL = 1 := Nat.min_eq_left h3
    have := run_copy_rowN (P := Try.prog) W 46 46 ty 52 2 g (i * 2) dL dc ⟨b, 0, none⟩ 1 1 cur1 52 [k, s] Try.underlying46 hz hW (by rw [hmin]; rfl)
      (World.news_of_block hWb) (by rw [hcs1]; simp; omega) (by simp [hk, hs])
    rw [this, hmin, hcur2]
    rfl
  have H5 := hid (show 1 ≤ n + 1 - i by omega)
  have H1 := hid hcp1
  have H2 := hid hcp2
  have HF := hid (⟨hmid, hml, hcur1, hcs1, hcur2, hsz⟩ : _ ∧ _ ∧ _ ∧ _ ∧ _ ∧ _)
  have HG := hid hg
  have HB := hid hb
  clear hcp1 hcp2 hmid hml hcur1 hcs1 hcur2 hg hb h1 hsa hsb hsz hfit hz hz0 hz1 hz2
  have w1 : IntKind.i64.wrap ((i : Int) + 1) = (i : Int) + 1 := IntWalk.i64_in _ (by omega)
  have w2 : ((i : Int) + 1).toNat = i + 1 := by omega
  have w3 : (0 : Int) ≤ (i : Int) + 1 := by omega
  have w4 : (i : Int) + 1 ≤ (n : Int) + 1 := by omega
  have w5 : ¬ cap = i + 1 := by omega
  have w6 : ¬ cap = i := by omega
  have w7 : i ≤ n := by omega
  have w8 : (i : Int) ≤ (n : Int) + 1 := by omega
  go_enter Try.func62, Try.ntmps62
  go_wp2_with (simp only [hov])
  go_region_law (refine step_copy_runI rfl (.tmp 73) (.tmp 76) 46 46 rfl _ _ (by simp [Act.eval, Act.put]) (by simp [Act.eval, Act.put]) (H1.out 3 (n - i) (cap - (i + 1)) (n + 1 - i) (cap - i) rfl rfl) ?_)
  go_wp2_with (refine wpList_copy_runI _ rfl (.tmp 80) (.tmp 81) 46 46 rfl (.slice (some ⟨g, i * 2, none⟩) (n + 1 - i) (cap - i)) (.slice (some ⟨b, 0, none⟩) 1 1) rfl rfl (H2.out _ ((HG.out.drew).row cur1) ((HB.out.drew).rowFar hne cur1) 3 (n + 1 - i) (cap - i) H5.out) ?_)
  go_ret
  obtain ⟨hmid, hml, hcur1, hcs1, hcur2, hsz⟩ := HF.out
  have hgr : w.grownBy ((w.drew.setRow g cur1).setRow g cur2) (some g) := ⟨rfl, rfl, rfl, by simp, fun x _ hx => by
    have hxg : x ≠ g := fun e => hx (by rw [e])
    rw [setRow_other _ _ _ _ hxg, setRow_other _ _ _ _ hxg]; rfl⟩
  refine ⟨_, rfl, ⟨?_, Or.inr ⟨g, cap, cur2, rfl, Nat.zero_le _, (((HG.out.drew).row cur1).row cur2), hroom, ?_, ?_, ?_⟩⟩, hgr, Or.inl rfl⟩
  · have hLl : cur.toList.length = cap * 2 := by simpa using hsz
    simp [hLl]; omega
  · unfold maxLen; omega
  · rw [hcur2]; simp [hcs1, hsz]; omega
  · have hLl : cur.toList.length = cap * 2 := by simpa using hsz
    have := ins_list cur.toList mid [k, s] (i * 2) (n * 2) (by omega) (by simp [hLl]; omega) (by rw [hmid]; congr 1; omega)
    rw [hcur2, hcur1]
    simp only [List.length_cons, List.length_nil, Nat.zero_add] at this
    rw [show (n + 1) * 2 = n * 2 + (1 + 1) by omega, show (i + 1) * 2 = i * 2 + (1 + 1) by omega, show i * 2 + 2 = i * 2 + (1 + 1) by rfl]
    exact this

theorem ins_grow_list {α : Type} (L Z mid ks : List α) (p q : Nat) (hp : p ≤ q) (hq : q ≤ L.length) (hZ : q + ks.length ≤ Z.length) (hZ0 : Z.take p = L.take p) (hmid : mid = (L.drop p).take (q - p)) :
    (((Z.take p ++ ks ++ Z.drop (p + ks.length)).take (p + ks.length)) ++ mid ++ (Z.take p ++ ks ++ Z.drop (p + ks.length)).drop (p + ks.length + mid.length)).take (q + ks.length) = L.take p ++ ks ++ (L.take q).drop p := by
  have h1 : (Z.take p ++ ks ++ Z.drop (p + ks.length)).take (p + ks.length) = L.take p ++ ks := by
    rw [List.take_append_of_le_length (by simp; omega), List.take_of_length_le (by simp; omega), hZ0]
  have hml : mid.length = q - p := by rw [hmid]; simp; omega
  rw [h1, List.take_append_of_le_length (by simp [hml]; omega), List.take_of_length_le (by simp [hml]; omega), hmid, List.drop_take]

set_option maxRecDepth 100000 in
set_option maxHeartbeats 2000000 in
theorem Insert_grow (g n cap i : Nat) (cur : Array Value) (b : Nat) (k s : Value) (w : World) (hg : Blk w g 52 cur) (hsz : cur.size = cap * 2) (hn : n ≤ 1000000) (hnc : n ≤ cap) (hroom : cap < n + 1) (hin : i < n)
    (hb : Blk w b 52 #[k, s]) (hk : k.oneCell' = true) (hs : s.oneCell' = true) (h1 : ∀ v ∈ cur.toList.take (n * 2), v.oneCell' = true) :
    Calls Try.prog 62 #[.slice (some ⟨g, 0, none⟩) n cap, .int .i64 i, .slice (some ⟨b, 0, none⟩) 1 1] w (RowPost w (.slice (some ⟨g, 0, none⟩) n cap) 52 2 (n + 1) (cur.toList.take (i * 2) ++ [k, s] ++ (cur.toList.take (n * 2)).drop (i * 2))) := by
  obtain ⟨i0, hi, hz0, hz1, hz2⟩ := info_parts infoPair
  have hz : (Try.prog.info? 52).map (·.size) = some 2 := by rw [hi]; simp [hz1]
  have hx1 : ¬ ((i : Int) = (n : Int)) := by omega
  have hx2 : ((i : Int) == (n : Int)) = false := beq_eq_false_iff_ne.2 hx1
  have hLl : cur.toList.length = cap * 2 := by simpa using hsz
  obtain ⟨C, hC⟩ : ∃ C, C = grownCap w (n + 1) cap 52 := ⟨_, rfl⟩
  have hCge : n + 1 ≤ C := by rw [hC]; exact grownCap_ge w _ _ _
  have hCm : C ≤ maxLen := by rw [hC]; exact grownCap_le_maxLen w _ _ _ (by unfold maxLen; omega)
  obtain ⟨Z, hZ⟩ : ∃ Z : Array Value, Z = (cur.toList.take (i * 2)).toArray ++ Builtin.zeroCells (Value.agg #[.int .u64 0, .string ⟨#[]⟩]).cells (n + 1 - i) ++ Builtin.zeroCells (Value.agg #[.int .u64 0, .string ⟨#[]⟩]).cells (C - (n + 1)) := ⟨_, rfl⟩
  have hZs : Z.size = C * 2 := by rw [hZ]; simp [size_zeroCells, Value.cells, hLl]; omega
  have hZ0 : Z.toList.take (i * 2) = cur.toList.take (i * 2) := by
    rw [hZ]; simp only [Array.toList_append, List.append_assoc]
    rw [List.take_append_of_le_length (by simp [hLl]; omega), List.take_of_length_le (by simp; omega)]
  have hap : ∀ ty, (Builtin.append_ #[46, 3] ty #[.slice (some ⟨g, 0, none⟩) i cap, .int .i64 ((n : Int) + 1 - i)]).run Try.prog w = .ok (.slice (some ⟨w.heap.size, 0, none⟩) (n + 1) C) (w.drew.alloc (.cells Z 52)) := by
    intro ty
    have := run_append_zeros_grow (P := Try.prog) w 46 3 ty 52 i0 (.agg #[.int .u64 0, .string ⟨#[]⟩]) .i64 .i64 Try.underlying46 Try.underlying3 hi hz0 ⟨g, 0, none⟩ i cap (n + 1 - i) (cur.toList.take (i * 2)) (by rw [hz1]; simp [hLl]; omega)
      (by have := cells_of_blk hg 0 (i * 2); simpa using this) (by omega) (by omega) (by omega) (by unfold maxLen; omega) (by rw [hz2]; omega)
    rw [show i + (n + 1 - i) = n + 1 by omega, ← hC, ← hZ] at this
    rw [show ((n : Int) + 1 - i) = ((n + 1 - i : Nat) : Int) by omega]
    exact this
  obtain ⟨mid, hmid⟩ : ∃ mid, mid = (cur.toList.drop (i * 2)).take ((n - i) * 2) := ⟨_, rfl⟩
  have hml : mid.length = (n - i) * 2 := by rw [hmid]; simp; omega
  obtain ⟨cur1, hcur1⟩ : ∃ cur1, cur1 = (Z.toList.take (i * 2) ++ [k, s] ++ Z.toList.drop (i * 2 + 2)).toArray := ⟨_, rfl⟩
  have hcs1 : cur1.size = C * 2 := by rw [hcur1]; simp [hZs]; omega
  obtain ⟨cur2, hcur2⟩ : ∃ cur2, cur2 = (cur1.toList.take ((i + 1) * 2) ++ mid ++ cur1.toList.drop ((i + 1) * 2 + mid.length)).toArray := ⟨_, rfl⟩
  have hcp1 : ∀ (W : World), Blk W w.heap.size 52 Z → Blk W b 52 #[k, s] → ∀ ty dL dc, 1 ≤ dL → (Builtin.copy_ #[46, 46] ty #[.slice (some ⟨w.heap.size, i * 2, none⟩) dL dc, .slice (some ⟨b, 0, none⟩) 1 1]).run Try.prog W = .ok (goInt (1 : Nat)) (W.setRow w.heap.size cur1) := by
    intro W hW hWb ty dL dc h3
    have hmin : Nat.min 1 dL = 1 := Nat.min_eq_left h3
    have := run_copy_rowN (P := Try.prog) W 46 46 ty 52 2 w.heap.size (i * 2) dL dc ⟨b, 0, none⟩ 1 1 Z 52 [k, s] Try.underlying46 hz hW (by rw [hmin]; rfl)
      (World.news_of_block hWb) (by rw [hZs]; simp; omega) (by simp [hk, hs])
    rw [this, hmin, hcur1]
    rfl
  have hcp2 : ∀ (W : World), Blk W w.heap.size 52 cur1 → Blk W g 52 cur → ∀ ty dL dc sL sc, dL = n - i → sL = n - i → (Builtin.copy_ #[46, 46] ty #[.slice (some ⟨w.heap.size, (i + 1) * 2, none⟩) dL dc, .slice (some ⟨g, i * 2, none⟩) sL sc]).run Try.prog W = .ok (goInt (n - i : Nat)) (W.setRow w.heap.size cur2) := by
    intro W hW hWg ty dL dc sL sc h3 h4
    subst h3 h4
    have hmin : Nat.min (n - i) (n - i) = n - i := Nat.min_self _
    have := run_copy_rowN (P := Try.prog) W 46 46 ty 52 2 w.heap.size ((i + 1) * 2) (n - i) dc ⟨g, i * 2, none⟩ (n - i) sc cur1 52 mid Try.underlying46 hz hW (by rw [hml, hmin])
      (by rw [hmid]; exact cells_of_blk hWg _ _) (by rw [hml, hcs1]; omega) (fun v hv => h1 v (by rw [hmid, show (n - i) * 2 = n * 2 - i * 2 by omega, ← List.drop_take] at hv; exact List.mem_of_mem_drop hv))
    rw [this, hmin, hcur2]
  have H5 := hid (show 1 ≤ n + 1 - i by omega)
  have HA := hid hap
  have H1 := hid hcp1
  have H2 := hid hcp2
  have HF := hid (⟨hmid, hml, hcur1, hcs1, hcur2, hLl, hZs, hZ0, hCm⟩ : _ ∧ _ ∧ _ ∧ _ ∧ _ ∧ _ ∧ _ ∧ _ ∧ _)
  have HG := hid hg
  have HB := hid hb
  have hgl := Nat.ne_of_lt hg.lt
  have hbl := Nat.ne_of_lt hb.lt
  have HL := hid (And.intro hgl hbl)
  have HC := hid hCm
  unfold maxLen at hCm
  clear hcp1 hcp2 hmid hml hcur1 hcs1 hcur2 hg hb h1 hsz hz hz0 hz1 hz2 hap hC hZ hZs hZ0 hLl hgl hbl
  have w1 : IntKind.i64.wrap ((i : Int) + 1) = (i : Int) + 1 := IntWalk.i64_in _ (by omega)
  have w2 : ((i : Int) + 1).toNat = i + 1 := by omega
  have w3 : (0 : Int) ≤ (i : Int) + 1 := by omega
  have w4 : (i : Int) + 1 ≤ (n : Int) + 1 := by omega
  have w5 : ¬ C = i + 1 := by omega
  have w6 : ¬ cap = i := by omega
  have w7 : i ≤ n := by omega
  have w8 : (i : Int) ≤ (n : Int) + 1 := by omega
  have w9 : ¬ C = i := by omega
  go_enter Try.func62, Try.ntmps62
  go_wp2_with (first | (at_builtin; refine Lib.wpList_append_run _ rfl (.tmp 34) (.tmp 39) 46 3 rfl _ _ rfl rfl _ _ (HA.out 46) ?_) | (refine wpList_copy_runI _ rfl (.tmp 43) (.tmp 44) 46 46 rfl (.slice (some ⟨w.heap.size, i * 2, none⟩) (n + 1 - i) (C - i)) (.slice (some ⟨b, 0, none⟩) 1 1) rfl rfl (H1.out _ (Blk.new w _ Z).drew (HB.out.alloc _).drew 3 (n + 1 - i) (C - i) H5.out) ?_))
  go_region_law (refine step_copy_runI rfl (.tmp 50) (.tmp 53) 46 46 rfl _ _ (by simp [Act.eval, Act.put]) (by simp [Act.eval, Act.put]) (H2.out _ (((Blk.new w _ Z).drew).row cur1).drew ((HG.out.alloc _).drew.rowFar HL.out.1 cur1).drew 3 (n + 1 - (i + 1)) (C - (i + 1)) (n - i) (cap - i) (by omega) rfl) ?_)
  go_wp2
  go_ret
  obtain ⟨hmid, hml, hcur1, hcs1, hcur2, hLl, hZs, hZ0, hCm'⟩ := HF.out
  refine ⟨_, rfl, ⟨?_, Or.inr ⟨w.heap.size, C, cur2, rfl, Nat.zero_le _, ((((Blk.new w _ Z).drew).row cur1).drew.row cur2), by omega, hCm', ?_, ?_⟩⟩, ?_, Or.inr ⟨_, rfl, Nat.le_refl _⟩⟩
  · simp [hLl]; omega
  · rw [hcur2]; simp [hcs1, hml]; omega
  · have := ins_grow_list cur.toList Z.toList mid [k, s] (i * 2) (n * 2) (by omega) (by rw [hLl]; omega) (by simp [hZs]; omega) hZ0 (by rw [hmid]; congr 1; omega)
    rw [hcur2, hcur1]
    simp only [List.length_cons, List.length_nil, Nat.zero_add] at this
    rw [show (n + 1) * 2 = n * 2 + (1 + 1) by omega, show (i + 1) * 2 = i * 2 + (1 + 1) by omega, show i * 2 + 2 = i * 2 + (1 + 1) by rfl]
    exact this
  · refine ⟨rfl, rfl, rfl, by simp, fun x hx _ => ?_⟩
    have hxh : x ≠ w.heap.size := by omega
    rw [setRow_other _ _ _ _ hxh]
    show (World.setRow _ _ _).heap[x]? = _
    rw [setRow_other _ _ _ _ hxh]
    exact Below.heap_alloc w _ x hx

theorem RowPost.mono {w : World} {v : Value} {e : TypeId} {size n : Nat} {cs cs' : List Value} (h : cs = cs') {en : Ending} {w' : World} (r : RowPost w v e size n cs en w') : RowPost w v e size n cs' en w' := h ▸ r

/-- one pair put in at a place -/
theorem Insert_pair (v : Value) (n i : Nat) (cs : List Value) (b : Nat) (k s : Value) (w : World) (hown : w.ownsRow 0 52 2 v n cs) (hin : i ≤ n) (hn : n ≤ 1000000) (hb : Blk w b 52 #[k, s]) (hne : v.ownBlock ≠ some b)
    (hk : k.oneCell' = true) (hs : s.oneCell' = true) (h1 : ∀ v ∈ cs, v.oneCell' = true) :
    Calls Try.prog 62 #[v, .int .i64 i, .slice (some ⟨b, 0, none⟩) 1 1] w (RowPost w v 52 2 (n + 1) (cs.take (i * 2) ++ [k, s] ++ cs.drop (i * 2))) := by
  have hl := hown.1
  rcases hown.2 with ⟨rfl, rfl⟩ | ⟨g, cap, cur, rfl, _, hg, hnc, hcm, hcs, htake⟩
  · obtain rfl : i = 0 := by omega
    obtain rfl : cs = [] := List.eq_nil_of_length_eq_zero (by simpa using hl)
    exact Insert_end_nil b k s w hb hk hs
  · by_cases hi : i = n
    · subst hi
      refine (Insert_end_some g i cap cs b k s w hown hn hnc (by simpa [maxLen] using hcm) hb hk hs).mono fun e w' h => RowPost.mono ?_ h
      rw [List.take_of_length_le (by omega), List.drop_eq_nil_of_le (by omega), List.append_nil]
    · have hlist : cur.toList.take (i * 2) ++ [k, s] ++ (cur.toList.take (n * 2)).drop (i * 2) = cs.take (i * 2) ++ [k, s] ++ cs.drop (i * 2) := by
        rw [htake, ← htake, List.take_take, Nat.min_eq_left (by omega)]
      have hgb : b ≠ g := fun e => hne (by rw [e]; rfl)
      by_cases hroom : n + 1 ≤ cap
      · exact (Insert_shift g n cap i cur b k s w hg hcs hn hroom (by simpa [maxLen] using hcm) (by omega) hb hgb hk hs (by rw [htake]; exact h1)).mono fun e w' h => RowPost.mono hlist h
      · exact (Insert_grow g n cap i cur b k s w hg hcs hn hnc (by omega) (by omega) hb hk hs (by rw [htake]; exact h1)).mono fun e w' h => RowPost.mono hlist h

end Go.Proofs.Ytdhnacajgmjmlaa
