/- The law CheckBytes, walked. -/
import Derived.Test.YtlodpnolcgjhmaaGreatKnCk
namespace Go.Proofs.YtlodpnolcgjhmaaGreat
open Go.RowKit
set_option linter.unusedVariables false
set_option linter.unusedSimpArgs false

/-- an answer that says this -/
def AnsOf (h nn err : Int) (ps : List (Int × ByteArray)) (R F K : List Int) (e : Ending) (w' : World) : Prop :=
  ∃ pa pc ra rc fa fc ka kc, e = .returned (.tuple #[.agg #[.slice pa ps.length pc, .slice ra R.length rc, .slice fa F.length fc, .slice ka K.length kc, .int .i64 h, .int .i64 nn], .int .i64 err]) ∧
    RepAt w' (.slice pa ps.length pc) (.slice ra R.length rc) (.slice fa F.length fc) (.slice ka K.length kc) ps R F K
theorem dlook_none {bs : List Int} {w w' : World} {e : Ending} (hno : ∀ rs ps, ¬ WholeOK bs rs ps) (h : DLkPost bs w e w') : e = .returned (.tuple #[.agg rep0, .int .i64 6]) ∧ Below w.heap.size w w' := by
  obtain ⟨hb, (⟨rs, ps, _, _, _, _, _, hok, _⟩ | ⟨_, rfl⟩)⟩ := h
  · exact absurd hok (hno rs ps)
  · exact ⟨rfl, hb⟩
theorem dlook_some {bs : List Int} {rs : List (List (Int × NodeA))} {ps : List (Int × ByteArray)} {leaves : List (Int × NodeA)} {w w' : World} {e : Ending} (hok : WholeOK bs rs ps) (hl : rs.getLast? = some leaves) (h : DLkPost bs w e w') :
    Below w.heap.size w w' ∧ AnsOf (rs.length - 1 : Int) (nodesI rs) 0 ps (reachI rs leaves) ((reachI rs leaves).filter fun a => decide (a ∉ refA bs (nsI bs))) ((refA bs (nsI bs)).filter fun a => decide (a ∉ reachI rs leaves)) e w' := by
  obtain ⟨hbl, (⟨rs', ps', leaves', pv, rv, fv, kv, hok', hl', rfl, q1, q2, q3, q4⟩ | ⟨hno, _⟩)⟩ := h
  · obtain ⟨e1, e2⟩ := whole_det hok' hok
    subst e1 e2
    rw [hl] at hl'
    injection hl' with hl'
    subst hl'
    obtain ⟨pa, pc, rfl⟩ := row_form1 q1
    obtain ⟨ra, rc, rfl⟩ := row_form1 q2
    obtain ⟨fa, fc, rfl⟩ := row_form1 q3
    obtain ⟨ka, kc, rfl⟩ := row_form1 q4
    exact ⟨hbl, pa, pc, ra, rc, fa, fc, ka, kc, rfl, RepAt.of_own q1 q2 q3 q4⟩
  · exact absurd hok (hno rs ps)
theorem ans_none (w' : World) : AnsOf 0 0 6 [] [] [] [] (.returned (.tuple #[.agg rep0, .int .i64 6])) w' :=
  ⟨none, 0, none, 0, none, 0, none, 0, rfl, ⟨Or.inl ⟨rfl, rfl, rfl⟩, ⟨none, 0, rfl, Nat.le_refl _⟩, ⟨none, 0, rfl, Or.inl rfl⟩, ⟨none, 0, rfl, Or.inl rfl⟩, ⟨none, 0, rfl, Or.inl rfl⟩⟩⟩
theorem vals_len {bs : List Int} : ∀ {es : List (Int × Int)} {R : List Int} {ps : List (Int × ByteArray)}, ValsAt bs R es ps → ps.length = es.length
  | [], _, _, h => by have e : _ = [] := h; rw [e]; rfl
  | e :: es, R, _, h => by
    obtain ⟨s, ps', _, rfl, h2⟩ := h
    rw [List.length_cons, List.length_cons, vals_len h2]
/-- what an image has, or that it may not be: the code's Look and the document's say the same -/
theorem looks_same {bs : List Int} (hb : ∀ x ∈ bs, 0 ≤ x ∧ x < 256) : ∃ h nn err ps R F K, (err = 0 ∨ err = 6) ∧ (∀ p ∈ ps, (0 ≤ p.1 ∧ p.1 ≤ 18446744073709551615) ∧ p.2.size ≤ 120) ∧ (ps.length ≤ 1000000 ∧ R.length ≤ 1000000 ∧ F.length ≤ 1000000 ∧ K.length ≤ 1000000) ∧
    (∀ w w' e, LookPost bs w e w' → Below w.heap.size w w' ∧ AnsOf h nn err ps R F K e w') ∧ (∀ w w' e, DLkPost bs w e w' → Below w.heap.size w w' ∧ AnsOf h nn err ps R F K e w') := by
  by_cases hex : ∃ rs ps, WholeOK bs rs ps
  · obtain ⟨rs, ps, hok⟩ := hex
    obtain ⟨leaves, hl, hv⟩ := hok.vals
    have hfw := rows_few hb (rs := rs) ⟨hok.slabs, hok.sup, hok.rows⟩
    have q1 := fold_len (allA rs ++ (allE leaves).map (·.2)) []
    have q2 := take_few hfw.2.2.1 rs.length
    have q3 : rs.length * 8320 ≤ 16 * 8320 := Nat.mul_le_mul_right _ hfw.1
    have q4 := allE_len leaves
    have q5 := hfw.2.2.1 leaves (List.mem_of_getLast? hl)
    have q6 := vals_len hv
    rw [List.take_length] at q2
    rw [List.length_append, List.length_map, List.length_nil] at q1
    have q7 : (reachI rs leaves).length ≤ 1000000 := by unfold reachI; omega
    have q8 : (refA bs (nsI bs)).length ≤ 1000000 := by
      have h1 := refL_len bs (nsI bs)
      have h2 := congrArg List.length (refA_eq bs (nsI bs))
      rw [List.length_map] at h2
      have h3 := slabs_len hok.slabs.1
      unfold nsI at *
      omega
    have q9 := List.length_filter_le (fun a => decide (a ∉ refA bs (nsI bs))) (reachI rs leaves)
    have q10 := List.length_filter_le (fun a => decide (a ∉ reachI rs leaves)) (refA bs (nsI bs))
    refine ⟨_, _, 0, ps, reachI rs leaves, _, _, Or.inl rfl, whole_small hb hok, ⟨by omega, q7, by omega, by omega⟩, fun w w' e h => ?_, fun w w' e h => dlook_some hok hl h⟩
    obtain ⟨h1, pa, pc, ra, rc, fa, fc, ka, kc, h2, h3⟩ := look_some hb hok hl h
    exact ⟨h1, pa, pc, ra, rc, fa, fc, ka, kc, h2, h3⟩
  · have hno : ∀ rs ps, ¬ WholeOK bs rs ps := fun rs ps h => hex ⟨rs, ps, h⟩
    refine ⟨0, 0, 6, [], [], [], [], Or.inr rfl, (fun p hp => by cases hp), by simp, fun w w' e h => ?_, fun w w' e h => ?_⟩
    · obtain ⟨rfl, h2⟩ := look_none hno h
      exact ⟨h2, ans_none w'⟩
    · obtain ⟨rfl, h2⟩ := dlook_none hno h
      exact ⟨h2, ans_none w'⟩

attribute [local go_sem ↓ high] repStoreAt2 repLoadAt repLoadVar drepBuild append_shut2
attribute [local go_sem] ldM_run lvM_run stM_run bldM_run Oper.semAt_some appM2_run

set_option maxRecDepth 100000 in
set_option maxHeartbeats 4000000 in
theorem CheckBytes_z (v : Value) (bs : List Int) (w : World) (h : ByArg w v bs) (hl63 : bs.length ≤ 9223372036854775807) :
    Calls Tryz.prog 4 #[v] w fun e w' => e = .returned (.bool true) ∧ Below w.heap.size w w' := by
  obtain ⟨p, cap, rfl, hby, hcap⟩ := h.form
  obtain ⟨n, hn⟩ : ∃ n, n = bs.length := ⟨_, rfl⟩
  by_cases hbig : n > 8192
  · have j1 : (n : Int) > 8192 := by omega
    have j2 : decide ((n : Int) > 8192) = true := decide_eq_true j1
    rw [← hn]
    clear h hby hn hl63
    go_enter Tryz.func4, Tryz.ntmps4
    go_wp2_with fail
    refine (known23_z _).mono ?_
    rintro e w1 ⟨rfl, hb1⟩
    go_wp2
    go_ret
    exact ⟨rfl, hb1⟩
  · have j1 : ¬ (n : Int) > 8192 := by omega
    have j2 : decide ((n : Int) > 8192) = false := decide_eq_false j1
    obtain ⟨p', cap', W1, hrun, hby1, hnew, hb1⟩ := byCopy h (by omega)
    obtain ⟨hh, nn, err, ps, R, F, K, herr, hsm, hlen, hlk, hdl⟩ := looks_same h.1
    obtain ⟨q1, q2, e1, hbi1, hc1⟩ := hby1.form
    injection e1 with e1 _ e2
    subst e1 e2
    have LK := hid (Look_z p' n cap' bs hn (by omega) hc1 W1 hbi1)
    have LD := hid (fun W (hb : Below w.heap.size w W) => DLook_r p cap bs n hn (by omega) W (bytesBel hby hb))
    have HC := hid (fun W (hb : Below W1.heap.size W1 W) => (⟨by_conv (hby1.bel hb), by_conv (h.bel (bx hb1 hb))⟩ : _ ∧ _))
    have HS := hid (⟨herr, hsm, hlen⟩ : _ ∧ _ ∧ _)
    have HLK := hid hlk
    have HDL := hid hdl
    have HB1 := hid hb1
    rw [← hn] at hrun HC ⊢
    clear h hby hn hl63 hby1 hbi1 hc1 hnew herr hsm hlen hlk hdl hb1 hbig
    obtain ⟨S, hS⟩ : ∃ S, S = strOfNums bs := ⟨_, rfl⟩
    rw [← hS] at HC
    go_enter Tryz.func4, Tryz.ntmps4
    go_wp2_with fail
    refine LK.out.mono ?_
    intro e w2 hp
    obtain ⟨hb2, pa, pc, ra, rc, fa, fc, ka, kc, rfl, hrep⟩ := HLK.out _ _ _ hp
    clear hp
    obtain ⟨pn, hpn⟩ : ∃ pn, pn = ps.length := ⟨_, rfl⟩
    obtain ⟨rn, hrn⟩ : ∃ rn, rn = R.length := ⟨_, rfl⟩
    obtain ⟨fn, hfn⟩ : ∃ fn, fn = F.length := ⟨_, rfl⟩
    obtain ⟨kn, hkn⟩ : ∃ kn, kn = K.length := ⟨_, rfl⟩
    rw [← hpn, ← hrn, ← hfn, ← hkn] at hrep ⊢
    obtain ⟨W3, hst3, k3, hb3⟩ := rep_put w2 pa ra fa ka pn pc rn rc fn fc kn kc hh nn
    have HB3 := hid (⟨bx hb2 hb3, bx (bx HB1.out hb2) hb3⟩ : _ ∧ _)
    have HR3 := hid (hrep.bel hb3)
    have HK3 := hid k3
    have HNM := hid (⟨hpn, hrn, hfn, hkn⟩ : _ ∧ _ ∧ _ ∧ _)
    have LD3 := hid (LD.out _ HB3.out.2)
    clear hb2 hb3 hrep k3 hpn hrn hfn hkn hrun
    go_wp2_with fail
    clear hst3
    refine LD3.out.mono ?_
    intro e w4 hp
    obtain ⟨hb4, pa2, pc2, ra2, rc2, fa2, fc2, ka2, kc2, rfl, hrep⟩ := HDL.out _ _ _ hp
    clear hp
    rw [← HNM.out.1, ← HNM.out.2.1, ← HNM.out.2.2.1, ← HNM.out.2.2.2] at hrep ⊢
    obtain ⟨W5, hst5, k5, hb5⟩ := rep_put w4 pa2 ra2 fa2 ka2 pn pc2 rn rc2 fn fc2 kn kc2 hh nn
    have HB5 := hid (⟨bx HB3.out.1 (bx hb4 hb5), bx HB3.out.2 (bx hb4 hb5)⟩ : _ ∧ _)
    have hld1 := ((HK3.out.bel hb4).bel hb5).ld (P := Tryz.prog) (ty := 32) Tryz.underlying32 rfl (by kernel_rfl)
    have hld2 := k5.ld (P := Tryz.prog) (ty := 32) Tryz.underlying32 rfl (by kernel_rfl)
    have SM := DSame_yes hh nn pn pn pa pa2 pc pc2 (.slice ra rn rc) (.slice fa fn fc) (.slice ka kn kc) (.slice ra2 rn rc2) (.slice fa2 fn fc2) (.slice ka2 kn kc2) ps R F K W5 ((HR3.out.bel hb4).bel hb5) (hrep.bel hb5) HS.out.2.2 HS.out.2.1
    have SM := hid SM
    have be : (err == err) = true := by simp
    clear hb4 hb5 hrep k5
    go_wp2_with fail
    refine SM.out.mono ?_
    rintro e w6 ⟨rfl, hb6⟩
    obtain ⟨hcv1, hcv2⟩ := HC.out _ (bx HB5.out.1 hb6)
    have HB6 := hid (bx HB5.out.2 hb6)
    have bs1 : (S.toList == S.toList) = true := by simp
    clear hb6 hst5 hld1 hld2
    go_wp2_with fail
    refine (known23_z _).mono ?_
    rintro e w7 ⟨rfl, hb7⟩
    have HB7 := hid (bx HB6.out hb7)
    clear hb7
    go_wp2
    go_ret
    exact ⟨rfl, HB7.out⟩

end Go.Proofs.YtlodpnolcgjhmaaGreat
