import Derived.Test.YtngpacdhpblpbaaE23
import Derived.Test.YtngpacdhpblpbaaE25
import Derived.Test.YtngpacdhpblpbaaE11
namespace Go.Proofs.Ytngpacdhpblpbaa
open Go.Av
set_option linter.unusedSimpArgs false
set_option linter.unusedVariables false
attribute [local irreducible] AWP CallG Ob Br BrP Go.Av.Sub endQ AOps OpV AC thenA blkA opsVC opVC withA withArgs opsQ opQ CallQ withA2 withArgs2
open Go.Pm (Pm idn)
theorem awQ_sc : ∀ r : AV, awQ r → ∀ p, r.scrub p = r := by
  rintro _ ⟨⟨q, s, w⟩, _, rfl⟩ p
  have := pz_scrub q p
  simp only [scrub_tup, scF_vecF, List.map_cons, List.map_nil, this]; rfl
theorem likeSame_ok (a : List Int) (h : a.length ≤ 9223372036854775807) : AC Try.prog 13 [ints a, ints a] Hp.emp (fun _ => false) (retV (.v (.bool (true)))) := by
  have := likeInts_ok a a h
  rwa [decide_eq_true rfl] at this
set_option maxHeartbeats 100000 in
theorem lawPuzzleStates_of (hcor : corruptC) (xs : List Int) (hl : xs.length ≤ 9223372036854775807) (hb : ∀ j, 0 ≤ xs.getD j 0 ∧ xs.getD j 0 ≤ 255) : AC Try.prog 3 [bts xs] Hp.emp (fun _ => false) (retV (.v (.bool (true)))) := by
  refine ac_of_awp (N := ⟨_, fun _ => false, fun _ _ => rfl⟩) Try.func3 rfl (by kernel_rfl) Try.ntmps3 (by simp) ?_
  simp only [argsFr, List.zipIdx_cons, List.zipIdx_nil, go_sem]
  repeat' (first | ((first | refine atF (f := 10) ?_ | refine atQ (f := 10) ?_); (refine callX (drawApplyWord_of hcor xs hb (by omega)) awQ_sc (fun r hq => ?_); obtain ⟨⟨p, s, w⟩, ⟨hp, hs, hw⟩, rfl⟩ := hq) <;> simp (maxSteps := 1000000) (dsimp := false) (implicitDefEqProofs := false) (disch := omega) only [wrap64, go_sem]) | refine awp_seqK fun K hK => ?_ | (refine awp_regionK 22517998136877053 rfl ?_; simp only [List.map_cons, List.map_nil]; simp (maxSteps := 1000000) (dsimp := false) (implicitDefEqProofs := false) (disch := omega) only [wrap64, go_sem]) | (refine awp_regionQK 22517998136877053 (by kernel_rfl) (by kernel_rfl) (by kernel_rfl) ?_; simp only [List.map_cons, List.map_nil]; simp (maxSteps := 1000000) (dsimp := false) (implicitDefEqProofs := false) (disch := omega) only [wrap64, go_sem]) | refine awp_block ?_ | (refine awp_skip ?_; simp only [go_sem]) | (refine awp_exit ?_; simp only [go_sem]) | (refine awp_ret ?_; try simp only [go_sem]) | (refine awp_condP rfl ?_; try simp only [go_sem]) | (refine BrP.mk (fun h => ?_) (fun h => ?_) <;> try simp (dsimp := false) (disch := omega) only [wrap64]) | (refine Br.mk (fun h => ?_) (fun h => ?_) <;> try simp (dsimp := false) (disch := omega) only [wrap64]) | refine Ob.mk (by first | omega | (intro _ _; rfl) | trivial | (intros; trivial) | assumption | (intro i hi; have h0 : i = 0 := (by omega); subst h0; first | rfl | trivial) | (intro i hi; have h0 : i = 0 ∨ i = 1 := (by omega); rcases h0 with rfl | rfl <;> rfl) | (intro i hi; have h0 : i = 0 ∨ i = 1 ∨ i = 2 := (by omega); rcases h0 with rfl | rfl | rfl <;> rfl)) ?_ | ((first | ((first | refine atF (f := 9) ?_ | refine atQ (f := 9) ?_); (first | (refine cV (hac := big_ok xs) (hK := ?_)) | (refine cQV (hac := big_ok xs) (hK := ?_))))); simp (maxSteps := 1000000) (dsimp := false) (implicitDefEqProofs := false) (disch := omega) only [wrap64, go_sem]) | apply_assumption -exfalso -symm)
  all_goals (first | (show endQ _ _ _ _ _ _ _; (repeat (rename (∀ (A : Fr) (H : Hp), AWP _ _ _ _ A H → _) => hK; clear hK)); (repeat (rename (Fr → Hp → Prop) => K; clear K))) | (show Exists _; (repeat (rename (∀ (A : Fr) (H : Hp), AWP _ _ _ _ A H → _) => hK; clear hK)); (repeat (rename (Fr → Hp → Prop) => K; clear K))) | skip)
  · exact end_retV rfl rfl
  · dsimp only at hp hs hw ⊢
    have hsz : p.s.size ≤ 140737488355328 := by have := hp.2.1; omega
    have hsl := hs.1
    by_cases hok : isSt p s ∧ isW p.m.length w
    · obtain ⟨hst, hww⟩ := hok
      have ha := hst.1.1.1
      have e1 : appW p s w = (appP p s w, true) := if_pos ⟨hst, hww⟩
      have hst2 := appP_isSt hst hww
      have e2 := appW_back hst hww
      obtain ⟨t, et⟩ : ∃ t, t = appP p s w := ⟨_, rfl⟩
      have htl : t.length ≤ 20 := by have h1 := hst2.2.1; rw [← et] at h1; omega
      have hr := reach_app hst hww
      have hm := mb_reach hst
      rw [← et] at e1 e2 hst2 hr
      clear et
      have hA := implApplyWord_ok p s w hsz 21
      have hB := specApplyWord_ok p s w 22
      rw [e1] at hA hB
      have hW := implInvertWord_ok w 62
      obtain ⟨v, ev⟩ : ∃ v, v = invP w := ⟨_, rfl⟩
      rw [← ev] at e2 hW
      have hC := implApplyWord_ok p t v hsz 23
      rw [e2] at hC
      have hS1 := implIsState_ok p s hsz
      have hS2 := specIsState_ok p s
      rw [decide_eq_true hst] at hS1 hS2
      have hR1 := implIsReachable_ok p s hsz
      have hR2 := implIsReachable_ok p t hsz
      rw [hr] at hR2
      have hM := implIsMember_ok p.n p.m s
      rw [hm] at hM
      have hV := implIsSolved_ok p s hsz
      obtain ⟨m, em⟩ : ∃ m : Nat, p.n = (m : Int) := ⟨p.n.toNat, by omega⟩
      have hsm : s.length = m := by have := hst.2.1; omega
      have hI := specIdent_ok m (by omega) 99
      rw [← em] at hI
      have hL := likeInts_ok s (idn m) (by omega)
      have hVL : decide (isSv p s) = decide (s = idn m) := by
        refine decide_eq_decide.2 ⟨fun h => ?_, fun h => ⟨hst, ?_⟩⟩
        · rw [h.2, hsm, ← idn_marks]
        · rw [hsm, ← idn_marks]; exact h
      rw [hVL] at hV
      have hl1 := likeSame_ok t (by omega)
      have hl2 := likeSame_ok s (by omega)
      clear e1 e2 hVL ev hr hm em
      repeat' (first | refine awp_seqK fun K hK => ?_ | (refine awp_regionK 22517998136877053 rfl ?_; simp only [List.map_cons, List.map_nil]; simp (maxSteps := 1000000) (dsimp := false) (implicitDefEqProofs := false) (disch := omega) only [wrap64, go_sem, beq_self_eq_true]) | (refine awp_regionQK 22517998136877053 (by kernel_rfl) (by kernel_rfl) (by kernel_rfl) ?_; simp only [List.map_cons, List.map_nil]; simp (maxSteps := 1000000) (dsimp := false) (implicitDefEqProofs := false) (disch := omega) only [wrap64, go_sem, beq_self_eq_true]) | refine awp_block ?_ | (refine awp_skip ?_; simp only [go_sem, beq_self_eq_true]) | (refine awp_exit ?_; simp only [go_sem, beq_self_eq_true]) | (refine awp_ret ?_; try simp only [go_sem, beq_self_eq_true]) | (refine awp_condP rfl ?_; try simp only [go_sem, beq_self_eq_true]) | (refine BrP.mk (fun h => ?_) (fun h => ?_) <;> try simp (dsimp := false) (disch := omega) only [wrap64]) | (refine Br.mk (fun h => ?_) (fun h => ?_) <;> try simp (dsimp := false) (disch := omega) only [wrap64]) | refine Ob.mk (by first | omega | (intro _ _; rfl) | trivial | (intros; trivial) | assumption | (intro i hi; have h0 : i = 0 := (by omega); subst h0; first | rfl | trivial) | (intro i hi; have h0 : i = 0 ∨ i = 1 := (by omega); rcases h0 with rfl | rfl <;> rfl) | (intro i hi; have h0 : i = 0 ∨ i = 1 ∨ i = 2 := (by omega); rcases h0 with rfl | rfl | rfl <;> rfl)) ?_ | ((first | ((first | refine atF (f := 11) ?_ | refine atQ (f := 11) ?_); (first | refine cFIB (hfit := .cons (.refl _) (.cons (.refl _) (.cons (.refl _) .nil))) (hac := hA) (hK := ?_) | refine cQIB (hfit := .cons (.refl _) (.cons (.refl _) (.cons (.refl _) .nil))) (hac := hA) (hK := ?_) | refine cFIB (hfit := .cons (.refl _) (.cons (.refl _) (.cons (.refl _) .nil))) (hac := hC) (hK := ?_) | refine cQIB (hfit := .cons (.refl _) (.cons (.refl _) (.cons (.refl _) .nil))) (hac := hC) (hK := ?_))) | ((first | refine atF (f := 12) ?_ | refine atQ (f := 12) ?_); (first | refine cFIB (hfit := .cons (.refl _) (.cons (.refl _) (.cons (.refl _) .nil))) (hac := hB) (hK := ?_) | refine cQIB (hfit := .cons (.refl _) (.cons (.refl _) (.cons (.refl _) .nil))) (hac := hB) (hK := ?_))) | ((first | refine atF (f := 13) ?_ | refine atQ (f := 13) ?_); (first | refine cV (hfit := .cons (.refl _) (.cons (.refl _) .nil)) (hac := hl1) (hK := ?_) | refine cQV (hfit := .cons (.refl _) (.cons (.refl _) .nil)) (hac := hl1) (hK := ?_) | refine cV (hfit := .cons (.refl _) (.cons (.refl _) .nil)) (hac := hl2) (hK := ?_) | refine cQV (hfit := .cons (.refl _) (.cons (.refl _) .nil)) (hac := hl2) (hK := ?_) | refine cV (hfit := .cons (.refl _) (.cons (.refl _) .nil)) (hac := hL) (hK := ?_) | refine cQV (hfit := .cons (.refl _) (.cons (.refl _) .nil)) (hac := hL) (hK := ?_))) | ((first | refine atF (f := 14) ?_ | refine atQ (f := 14) ?_); (first | refine cV (hfit := .cons (.refl _) (.cons (.refl _) .nil)) (hac := hS1) (hK := ?_) | refine cQV (hfit := .cons (.refl _) (.cons (.refl _) .nil)) (hac := hS1) (hK := ?_))) | ((first | refine atF (f := 15) ?_ | refine atQ (f := 15) ?_); (first | refine cV (hfit := .cons (.refl _) (.cons (.refl _) .nil)) (hac := hS2) (hK := ?_) | refine cQV (hfit := .cons (.refl _) (.cons (.refl _) .nil)) (hac := hS2) (hK := ?_))) | ((first | refine atF (f := 17) ?_ | refine atQ (f := 17) ?_); (first | refine cV (hfit := .cons (.refl _) (.cons (.refl _) .nil)) (hac := hR1) (hK := ?_) | refine cQV (hfit := .cons (.refl _) (.cons (.refl _) .nil)) (hac := hR1) (hK := ?_) | refine cV (hfit := .cons (.refl _) (.cons (.refl _) .nil)) (hac := hR2) (hK := ?_) | refine cQV (hfit := .cons (.refl _) (.cons (.refl _) .nil)) (hac := hR2) (hK := ?_))) | ((first | refine atF (f := 18) ?_ | refine atQ (f := 18) ?_); (first | refine cV (hfit := .cons (.refl _) (.cons (.refl _) (.cons (.refl _) .nil))) (hac := hM) (hK := ?_) | refine cQV (hfit := .cons (.refl _) (.cons (.refl _) (.cons (.refl _) .nil))) (hac := hM) (hK := ?_))) | ((first | refine atF (f := 19) ?_ | refine atQ (f := 19) ?_); (first | refine cV (hfit := .cons (.refl _) (.cons (.refl _) .nil)) (hac := hV) (hK := ?_) | refine cQV (hfit := .cons (.refl _) (.cons (.refl _) .nil)) (hac := hV) (hK := ?_))) | ((first | refine atF (f := 20) ?_ | refine atQ (f := 20) ?_); (first | refine cFI (hfit := .cons (.refl _) .nil) (hac := hI) (hK := ?_) | refine cQI (hfit := .cons (.refl _) .nil) (hac := hI) (hK := ?_))) | ((first | refine atF (f := 16) ?_ | refine atQ (f := 16) ?_); (first | refine cFI (hfit := .cons (.refl _) .nil) (hac := hW) (hK := ?_) | refine cQI (hfit := .cons (.refl _) .nil) (hac := hW) (hK := ?_)))); simp (maxSteps := 1000000) (dsimp := false) (implicitDefEqProofs := false) (disch := omega) only [wrap64, go_sem, beq_self_eq_true]) | apply_assumption -exfalso -symm)
      all_goals (first | (show endQ _ _ _ _ _ _ _; (repeat (rename (∀ (A : Fr) (H : Hp), AWP _ _ _ _ A H → _) => hK; clear hK)); (repeat (rename (Fr → Hp → Prop) => K; clear K))) | (show Exists _; (repeat (rename (∀ (A : Fr) (H : Hp), AWP _ _ _ _ A H → _) => hK; clear hK)); (repeat (rename (Fr → Hp → Prop) => K; clear K))) | skip)
      all_goals exact end_retV rfl rfl
    · have e1 : appW p s w = ([], false) := if_neg hok
      have hA := implApplyWord_ok p s w hsz 21
      have hB := specApplyWord_ok p s w 22
      rw [e1] at hA hB
      have hS1 := implIsState_ok p s hsz
      have hS2 := specIsState_ok p s
      have hl1 := likeSame_ok [] (by simp)
      repeat' (first | refine awp_seqK fun K hK => ?_ | (refine awp_regionK 22517998136877053 rfl ?_; simp only [List.map_cons, List.map_nil]; simp (maxSteps := 1000000) (dsimp := false) (implicitDefEqProofs := false) (disch := omega) only [wrap64, go_sem, beq_self_eq_true]) | (refine awp_regionQK 22517998136877053 (by kernel_rfl) (by kernel_rfl) (by kernel_rfl) ?_; simp only [List.map_cons, List.map_nil]; simp (maxSteps := 1000000) (dsimp := false) (implicitDefEqProofs := false) (disch := omega) only [wrap64, go_sem, beq_self_eq_true]) | refine awp_block ?_ | (refine awp_skip ?_; simp only [go_sem, beq_self_eq_true]) | (refine awp_exit ?_; simp only [go_sem, beq_self_eq_true]) | (refine awp_ret ?_; try simp only [go_sem, beq_self_eq_true]) | (refine awp_condP rfl ?_; try simp only [go_sem, beq_self_eq_true]) | (refine BrP.mk (fun h => ?_) (fun h => ?_) <;> try simp (dsimp := false) (disch := omega) only [wrap64]) | (refine Br.mk (fun h => ?_) (fun h => ?_) <;> try simp (dsimp := false) (disch := omega) only [wrap64]) | refine Ob.mk (by first | omega | (intro _ _; rfl) | trivial | (intros; trivial) | assumption | (intro i hi; have h0 : i = 0 := (by omega); subst h0; first | rfl | trivial) | (intro i hi; have h0 : i = 0 ∨ i = 1 := (by omega); rcases h0 with rfl | rfl <;> rfl) | (intro i hi; have h0 : i = 0 ∨ i = 1 ∨ i = 2 := (by omega); rcases h0 with rfl | rfl | rfl <;> rfl)) ?_ | ((first | ((first | refine atF (f := 11) ?_ | refine atQ (f := 11) ?_); (first | refine cFIB (hfit := .cons (.refl _) (.cons (.refl _) (.cons (.refl _) .nil))) (hac := hA) (hK := ?_) | refine cQIB (hfit := .cons (.refl _) (.cons (.refl _) (.cons (.refl _) .nil))) (hac := hA) (hK := ?_))) | ((first | refine atF (f := 12) ?_ | refine atQ (f := 12) ?_); (first | refine cFIB (hfit := .cons (.refl _) (.cons (.refl _) (.cons (.refl _) .nil))) (hac := hB) (hK := ?_) | refine cQIB (hfit := .cons (.refl _) (.cons (.refl _) (.cons (.refl _) .nil))) (hac := hB) (hK := ?_))) | ((first | refine atF (f := 13) ?_ | refine atQ (f := 13) ?_); (first | refine cV (hfit := .cons (.refl _) (.cons (.refl _) .nil)) (hac := hl1) (hK := ?_) | refine cQV (hfit := .cons (.refl _) (.cons (.refl _) .nil)) (hac := hl1) (hK := ?_))) | ((first | refine atF (f := 14) ?_ | refine atQ (f := 14) ?_); (first | refine cV (hfit := .cons (.refl _) (.cons (.refl _) .nil)) (hac := hS1) (hK := ?_) | refine cQV (hfit := .cons (.refl _) (.cons (.refl _) .nil)) (hac := hS1) (hK := ?_))) | ((first | refine atF (f := 15) ?_ | refine atQ (f := 15) ?_); (first | refine cV (hfit := .cons (.refl _) (.cons (.refl _) .nil)) (hac := hS2) (hK := ?_) | refine cQV (hfit := .cons (.refl _) (.cons (.refl _) .nil)) (hac := hS2) (hK := ?_)))); simp (maxSteps := 1000000) (dsimp := false) (implicitDefEqProofs := false) (disch := omega) only [wrap64, go_sem, beq_self_eq_true]) | apply_assumption -exfalso -symm)
      all_goals (first | (show endQ _ _ _ _ _ _ _; (repeat (rename (∀ (A : Fr) (H : Hp), AWP _ _ _ _ A H → _) => hK; clear hK)); (repeat (rename (Fr → Hp → Prop) => K; clear K))) | (show Exists _; (repeat (rename (∀ (A : Fr) (H : Hp), AWP _ _ _ _ A H → _) => hK; clear hK)); (repeat (rename (Fr → Hp → Prop) => K; clear K))) | skip)
      exact end_retV' rfl rfl (by simp)
theorem lawPuzzleStates_ok (xs : List Int) (hl : xs.length ≤ 9223372036854775807) (hb : ∀ j, 0 ≤ xs.getD j 0 ∧ xs.getD j 0 ≤ 255) : AC Try.prog 3 [bts xs] Hp.emp (fun _ => false) (retV (.v (.bool (true)))) := lawPuzzleStates_of corrupt_ok xs hl hb
end Go.Proofs.Ytngpacdhpblpbaa
