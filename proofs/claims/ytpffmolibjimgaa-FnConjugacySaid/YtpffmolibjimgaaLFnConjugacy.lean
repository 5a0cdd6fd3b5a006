import Derived.Test.YtpffmolibjimgaaJ26
import Derived.Test.YtpffmolibjimgaaJ27
import Derived.Test.YtpffmolibjimgaaJ18
namespace Go.Proofs.Ytpffmolibjimgaa
open Go.Av
set_option linter.unusedSimpArgs false
set_option linter.unusedVariables false
attribute [local irreducible] AWP CallG Ob Br BrP Go.Av.Sub endQ AOps OpV AC thenA blkA opsVC opVC withA withArgs opsQ opQ CallQ withA2 withArgs2
open Go.Pm (Pm cnj ctP)
theorem pq_scrub (r : AV) (h : pq21 r) (q : Nat → Bool) : r.scrub q = r := by
  obtain ⟨a, b, _, rfl⟩ := h
  simp only [scrub_tup, scF_vecF, List.map_cons, List.map_nil]; rfl
theorem perm_cnj {p q : List Int} (h : sameP p q) : isPerm (cnj p q) ∧ (cnj p q).length = p.length ∧ ctP (cnj p q) = ctP p := by
  obtain ⟨h1, hp⟩ := (isPerm_pm p).1 h.2.1
  obtain ⟨_, hq⟩ := (isPerm_pm q).1 h.2.2
  rw [← h.1] at hq
  have hc := Go.Pm.cnj_pm hp hq
  have hl := hc.1
  exact ⟨(isPerm_pm _).2 ⟨by omega, by rw [hl]; exact hc⟩, hl, Go.Pm.ct_cnj hp hq⟩
set_option maxHeartbeats 8000000 in
theorem lawFnConjugacy_ok (xs : List Int) (hl : xs.length ≤ 9223372036854775807) (hb : ∀ j, 0 ≤ xs.getD j 0 ∧ xs.getD j 0 ≤ 255) : AC Try.prog 3 [bts xs] Hp.emp (fun _ => false) (retV (.v (.bool (true)))) := by
  refine ac_of_awp (N := ⟨_, fun _ => false, fun _ _ => rfl, true⟩) Try.func3 rfl (by kernel_rfl) Try.ntmps3 (by simp) ?_
  simp only [argsFr, List.zipIdx_cons, List.zipIdx_nil, go_sem]
  repeat' (first | ((first | refine atF (f := 5) ?_ | refine atQ (f := 5) ?_); (refine callX (drawFindConjugator_ok xs hb (by omega)) pq_scrub (fun r hq => ?_); obtain ⟨p, q, ⟨hp, hq1⟩, rfl⟩ := hq) <;> simp (maxSteps := 1000000) (dsimp := false) (implicitDefEqProofs := false) (disch := omega) only [wrap64, go_sem]) | refine awp_seqK fun K hK => ?_ | (refine awp_regionK 6044629386338706397380349 rfl ?_; simp only [List.map_cons, List.map_nil]; simp (maxSteps := 1000000) (dsimp := false) (implicitDefEqProofs := false) (disch := omega) only [wrap64, go_sem]) | (refine awp_regionQK 6044629386338706397380349 (by kernel_rfl) (by kernel_rfl) (by kernel_rfl) ?_; simp only [List.map_cons, List.map_nil]; simp (maxSteps := 1000000) (dsimp := false) (implicitDefEqProofs := false) (disch := omega) only [wrap64, go_sem]) | refine awp_block ?_ | (refine awp_skip ?_; simp only [go_sem]) | (refine awp_exit ?_; simp only [go_sem]) | (refine awp_ret ?_; try simp only [go_sem]) | (refine awp_condP rfl ?_; try simp only [go_sem]) | (refine BrP.mk (fun h => ?_) (fun h => ?_) <;> try simp (dsimp := false) (disch := omega) only [wrap64]) | (refine Br.mk (fun h => ?_) (fun h => ?_) <;> try simp (dsimp := false) (disch := omega) only [wrap64]) | refine Ob.mk (by first | omega | (intro _ _; rfl) | trivial | (intros; trivial) | assumption | (intro i hi; have h0 : i = 0 := (by omega); subst h0; first | rfl | trivial) | (intro i hi; have h0 : i = 0 ∨ i = 1 := (by omega); rcases h0 with rfl | rfl <;> rfl) | (intro i hi; have h0 : i = 0 ∨ i = 1 ∨ i = 2 := (by omega); rcases h0 with rfl | rfl | rfl <;> rfl)) ?_ | ((first | ((first | refine atF (f := 4) ?_ | refine atQ (f := 4) ?_); (first | (refine cV (hac := big_ok xs) (hK := ?_)) | (refine cQV (hac := big_ok xs) (hK := ?_))))); simp (maxSteps := 1000000) (dsimp := false) (implicitDefEqProofs := false) (disch := omega) only [wrap64, go_sem]) | apply_assumption -exfalso -symm)
  all_goals (first | (show endQ _ _ _ _ _ _ _; (repeat (rename (∀ (A : Fr) (H : Hp), AWP _ _ _ _ A H → _) => hK; clear hK)); (repeat (rename (Fr → Hp → Prop) => K; clear K))) | (show Exists _; (repeat (rename (∀ (A : Fr) (H : Hp), AWP _ _ _ _ A H → _) => hK; clear hK)); (repeat (rename (Fr → Hp → Prop) => K; clear K))) | skip)
  · exact end_retV rfl rfl
  · have s1 := implSameCycleType_ok p q
    have s2 := specSameCycleType_ok p q
    have cf := implFindConjugator_ok p q
    have sf := specFindConjugator_ok p q
    have i1 := specIsPermutation_ok p
    have i2 := specIsPermutation_ok q
    have c1 := fun d => implConjugate_ok p q d
    by_cases hS : sameP p q
    · obtain ⟨k1, k2, k3⟩ := perm_cnj hS
      have hn := ((isPerm_pm p).1 hS.2.1).1
      have hpq := hS.1
      rw [decide_eq_true hS.2.1] at i1
      rw [decide_eq_true hS.2.2] at i2
      rw [show cnjU p q = (cnj p q, true) from if_pos hS] at c1
      have s3 := implSameCycleType_ok p (cnj p q)
      rw [decide_eq_true (show sctP p (cnj p q) from ⟨⟨k2.symm, hS.2.1, k1⟩, k3.symm⟩)] at s3
      have t1 := fun d => implCycleType_ok p d
      have t2 := fun d => implCycleType_ok (cnj p q) d
      rw [show ctS (cnj p q) = ctS p from by unfold ctS; rw [if_pos k1, if_pos hS.2.1, k3]] at t2
      have hcl := ctS_len p
      obtain ⟨C, eC⟩ : ∃ C, C = cnj p q := ⟨_, rfl⟩
      obtain ⟨D, eD⟩ : ∃ D, D = ctS p := ⟨_, rfl⟩
      rw [← eC] at c1 s3 t2 k2
      rw [← eD] at t1 t2 hcl
      have l1 := likeInts_ok D D (by omega)
      have l2 := likeInts_ok q q (by omega)
      rw [decide_eq_true rfl] at l1 l2
      by_cases hC : sctP p q ∧ p.length ≤ 7
      · have cf : AC Try.prog 7 [ints p, ints q] Hp.emp (fun _ => false) (postX fun r => ∃ x, Pm p.length x ∧ cnj p x = q ∧ r = .tup 2 (vecF [ints x, .v (.bool (true))])) := by
          have e : fcQ p q = fun r => ∃ x, Pm p.length x ∧ cnj p x = q ∧ r = .tup 2 (vecF [ints x, .v (.bool (true))]) := by
            funext r; unfold fcQ; rw [if_pos hC]
          rwa [e] at cf
        rw [decide_eq_true hC.1] at s1 s2
        unfold sfQ at sf
        rw [decide_eq_true hC] at sf
        have c5 : ∀ x, Pm p.length x → cnj p x = q → ∀ d, AC Try.prog 11 [ints p, ints x] Hp.emp (fun _ => false) (retIB d q true) := fun x hx hxq d => by
          have h := implConjugate_ok p x d
          rw [show cnjU p x = (cnj p x, true) from if_pos ⟨hx.1.symm, hS.2.1, (isPerm_pm x).2 ⟨by rw [hx.1]; omega, by rw [hx.1]; exact hx⟩⟩, hxq] at h
          exact h
        have s1 := Hold.mk s1
        have s2 := Hold.mk s2
        have s3 := Hold.mk s3
        have cf := Hold.mk cf
        have sf := Hold.mk sf
        have i1 := Hold.mk i1
        have i2 := Hold.mk i2
        have c1 := Hold.mk c1
        have c5 := Hold.mk c5
        have t1 := Hold.mk t1
        have t2 := Hold.mk t2
        have l1 := Hold.mk l1
        have l2 := Hold.mk l2
        clear hS hC k1 k3 eC eD
        repeat' (first | ((first | refine atF (f := 7) ?_ | refine atQ (f := 7) ?_); (refine callX cf.h (by rintro _ ⟨x, _, _, rfl⟩ s; simp only [scrub_tup, scF_vecF, List.map_cons, List.map_nil]; rfl) (fun r hq => ?_); obtain ⟨x, hx, hxq, rfl⟩ := hq; have hxl := hx.1; have hxp := Hold.mk (And.intro hx hxq); clear hx hxq) <;> simp (maxSteps := 1000000) (dsimp := false) (implicitDefEqProofs := false) (disch := omega) only [wrap64, go_sem]) | ((first | refine atF (f := 8) ?_ | refine atQ (f := 8) ?_); (refine callX sf.h (by rintro _ ⟨x, _, rfl⟩ s; simp only [scrub_tup, scF_vecF, List.map_cons, List.map_nil]; rfl) (fun r hq => ?_); obtain ⟨ys, hys, rfl⟩ := hq) <;> simp (maxSteps := 1000000) (dsimp := false) (implicitDefEqProofs := false) (disch := omega) only [wrap64, go_sem]) | refine awp_seqK fun K hK => ?_ | (refine awp_regionK 6044629386338706397380349 rfl ?_; simp only [List.map_cons, List.map_nil]; simp (maxSteps := 1000000) (dsimp := false) (implicitDefEqProofs := false) (disch := omega) only [wrap64, go_sem]) | (refine awp_regionQK 6044629386338706397380349 (by kernel_rfl) (by kernel_rfl) (by kernel_rfl) ?_; simp only [List.map_cons, List.map_nil]; simp (maxSteps := 1000000) (dsimp := false) (implicitDefEqProofs := false) (disch := omega) only [wrap64, go_sem]) | refine awp_block ?_ | (refine awp_skip ?_; simp only [go_sem]) | (refine awp_exit ?_; simp only [go_sem]) | (refine awp_ret ?_; try simp only [go_sem]) | (refine awp_condP rfl ?_; try simp only [go_sem]) | (refine BrP.mk (fun h => ?_) (fun h => ?_) <;> try simp (dsimp := false) (disch := omega) only [wrap64]) | (refine Br.mk (fun h => ?_) (fun h => ?_) <;> try simp (dsimp := false) (disch := omega) only [wrap64]) | refine Ob.mk (by first | omega | (intro _ _; rfl) | trivial | (intros; trivial) | assumption | (intro i hi; have h0 : i = 0 := (by omega); subst h0; first | rfl | trivial) | (intro i hi; have h0 : i = 0 ∨ i = 1 := (by omega); rcases h0 with rfl | rfl <;> rfl) | (intro i hi; have h0 : i = 0 ∨ i = 1 ∨ i = 2 := (by omega); rcases h0 with rfl | rfl | rfl <;> rfl)) ?_ | ((first | ((first | refine atF (f := 6) ?_ | refine atQ (f := 6) ?_); (first | refine cV (hfit := .cons (.refl _) (.cons (.refl _) .nil)) (hac := s1.h) (hK := ?_) | refine cQV (hfit := .cons (.refl _) (.cons (.refl _) .nil)) (hac := s1.h) (hK := ?_) | refine cV (hfit := .cons (.refl _) (.cons (.refl _) .nil)) (hac := s3.h) (hK := ?_) | refine cQV (hfit := .cons (.refl _) (.cons (.refl _) .nil)) (hac := s3.h) (hK := ?_))) | ((first | refine atF (f := 9) ?_ | refine atQ (f := 9) ?_); (first | refine cV (hfit := .cons (.refl _) (.cons (.refl _) .nil)) (hac := s2.h) (hK := ?_) | refine cQV (hfit := .cons (.refl _) (.cons (.refl _) .nil)) (hac := s2.h) (hK := ?_))) | ((first | refine atF (f := 10) ?_ | refine atQ (f := 10) ?_); (first | refine cV (hfit := .cons (.refl _) .nil) (hac := i1.h) (hK := ?_) | refine cQV (hfit := .cons (.refl _) .nil) (hac := i1.h) (hK := ?_) | refine cV (hfit := .cons (.refl _) .nil) (hac := i2.h) (hK := ?_) | refine cQV (hfit := .cons (.refl _) .nil) (hac := i2.h) (hK := ?_))) | ((first | refine atF (f := 11) ?_ | refine atQ (f := 11) ?_); (first | refine cFIB (hac := c1.h 40) (hK := ?_) | refine cFIB (hac := c5.h x hxp.h.1 hxp.h.2 41) (hK := ?_))) | ((first | refine atF (f := 13) ?_ | refine atQ (f := 13) ?_); (first | refine cFI (hac := t1.h 42) (hK := ?_) | refine cFI (hac := t2.h 43) (hK := ?_) | refine cQI (hac := t1.h 42) (hK := ?_) | refine cQI (hac := t2.h 43) (hK := ?_))) | ((first | refine atF (f := 12) ?_ | refine atQ (f := 12) ?_); (first | refine cV (hfit := .cons (.refl _) (.cons (.refl _) .nil)) (hac := l1.h) (hK := ?_) | refine cQV (hfit := .cons (.refl _) (.cons (.refl _) .nil)) (hac := l1.h) (hK := ?_) | refine cV (hfit := .cons (.refl _) (.cons (.refl _) .nil)) (hac := l2.h) (hK := ?_) | refine cQV (hfit := .cons (.refl _) (.cons (.refl _) .nil)) (hac := l2.h) (hK := ?_)))); simp (maxSteps := 1000000) (dsimp := false) (implicitDefEqProofs := false) (disch := omega) only [wrap64, go_sem]) | apply_assumption -exfalso -symm)
        all_goals (first | (show endQ _ _ _ _ _ _ _; (repeat (rename (∀ (A : Fr) (H : Hp), AWP _ _ _ _ A H → _) => hK; clear hK)); (repeat (rename (Fr → Hp → Prop) => K; clear K))) | (show Exists _; (repeat (rename (∀ (A : Fr) (H : Hp), AWP _ _ _ _ A H → _) => hK; clear hK)); (repeat (rename (Fr → Hp → Prop) => K; clear K))) | skip)
        all_goals first | exact end_retV rfl rfl | (exfalso; omega)
      · have cf : AC Try.prog 7 [ints p, ints q] Hp.emp (fun _ => false) (postX fun r => r = .tup 2 (vecF [ints [], .v (.bool (false))])) := by
          have e : fcQ p q = fun r => r = .tup 2 (vecF [ints [], .v (.bool (false))]) := by
            funext r; unfold fcQ; rw [if_neg hC]
          rwa [e] at cf
        unfold sfQ at sf
        rw [decide_eq_false hC] at sf
        have s3 := Hold.mk s3
        have cf := Hold.mk cf
        have sf := Hold.mk sf
        have i1 := Hold.mk i1
        have i2 := Hold.mk i2
        have c1 := Hold.mk c1
        have t1 := Hold.mk t1
        have t2 := Hold.mk t2
        have l1 := Hold.mk l1
        have l2 := Hold.mk l2
        clear hS hC k1 k3 eC eD
        cases hsc : decide (sctP p q) with
        | true =>
          rw [hsc] at s1 s2
          have s1 := Hold.mk s1
          have s2 := Hold.mk s2
          clear hsc
          repeat' (first | ((first | refine atF (f := 7) ?_ | refine atQ (f := 7) ?_); (refine callX cf.h (by rintro _ rfl s; simp only [scrub_tup, scF_vecF, List.map_cons, List.map_nil]; rfl) (fun r hq => ?_); subst hq) <;> simp (maxSteps := 1000000) (dsimp := false) (implicitDefEqProofs := false) (disch := omega) only [wrap64, go_sem]) | ((first | refine atF (f := 8) ?_ | refine atQ (f := 8) ?_); (refine callX sf.h (by rintro _ ⟨x, _, rfl⟩ s; simp only [scrub_tup, scF_vecF, List.map_cons, List.map_nil]; rfl) (fun r hq => ?_); obtain ⟨ys, hys, rfl⟩ := hq) <;> simp (maxSteps := 1000000) (dsimp := false) (implicitDefEqProofs := false) (disch := omega) only [wrap64, go_sem]) | refine awp_seqK fun K hK => ?_ | (refine awp_regionK 6044629386338706397380349 rfl ?_; simp only [List.map_cons, List.map_nil]; simp (maxSteps := 1000000) (dsimp := false) (implicitDefEqProofs := false) (disch := omega) only [wrap64, go_sem]) | (refine awp_regionQK 6044629386338706397380349 (by kernel_rfl) (by kernel_rfl) (by kernel_rfl) ?_; simp only [List.map_cons, List.map_nil]; simp (maxSteps := 1000000) (dsimp := false) (implicitDefEqProofs := false) (disch := omega) only [wrap64, go_sem]) | refine awp_block ?_ | (refine awp_skip ?_; simp only [go_sem]) | (refine awp_exit ?_; simp only [go_sem]) | (refine awp_ret ?_; try simp only [go_sem]) | (refine awp_condP rfl ?_; try simp only [go_sem]) | (refine BrP.mk (fun h => ?_) (fun h => ?_) <;> try simp (dsimp := false) (disch := omega) only [wrap64]) | (refine Br.mk (fun h => ?_) (fun h => ?_) <;> try simp (dsimp := false) (disch := omega) only [wrap64]) | refine Ob.mk (by first | omega | (intro _ _; rfl) | trivial | (intros; trivial) | assumption | (intro i hi; have h0 : i = 0 := (by omega); subst h0; first | rfl | trivial) | (intro i hi; have h0 : i = 0 ∨ i = 1 := (by omega); rcases h0 with rfl | rfl <;> rfl) | (intro i hi; have h0 : i = 0 ∨ i = 1 ∨ i = 2 := (by omega); rcases h0 with rfl | rfl | rfl <;> rfl)) ?_ | ((first | ((first | refine atF (f := 6) ?_ | refine atQ (f := 6) ?_); (first | refine cV (hfit := .cons (.refl _) (.cons (.refl _) .nil)) (hac := s1.h) (hK := ?_) | refine cQV (hfit := .cons (.refl _) (.cons (.refl _) .nil)) (hac := s1.h) (hK := ?_) | refine cV (hfit := .cons (.refl _) (.cons (.refl _) .nil)) (hac := s3.h) (hK := ?_) | refine cQV (hfit := .cons (.refl _) (.cons (.refl _) .nil)) (hac := s3.h) (hK := ?_))) | ((first | refine atF (f := 9) ?_ | refine atQ (f := 9) ?_); (first | refine cV (hfit := .cons (.refl _) (.cons (.refl _) .nil)) (hac := s2.h) (hK := ?_) | refine cQV (hfit := .cons (.refl _) (.cons (.refl _) .nil)) (hac := s2.h) (hK := ?_))) | ((first | refine atF (f := 10) ?_ | refine atQ (f := 10) ?_); (first | refine cV (hfit := .cons (.refl _) .nil) (hac := i1.h) (hK := ?_) | refine cQV (hfit := .cons (.refl _) .nil) (hac := i1.h) (hK := ?_) | refine cV (hfit := .cons (.refl _) .nil) (hac := i2.h) (hK := ?_) | refine cQV (hfit := .cons (.refl _) .nil) (hac := i2.h) (hK := ?_))) | ((first | refine atF (f := 11) ?_ | refine atQ (f := 11) ?_); (first | refine cFIB (hac := c1.h 40) (hK := ?_))) | ((first | refine atF (f := 13) ?_ | refine atQ (f := 13) ?_); (first | refine cFI (hac := t1.h 42) (hK := ?_) | refine cFI (hac := t2.h 43) (hK := ?_) | refine cQI (hac := t1.h 42) (hK := ?_) | refine cQI (hac := t2.h 43) (hK := ?_))) | ((first | refine atF (f := 12) ?_ | refine atQ (f := 12) ?_); (first | refine cV (hfit := .cons (.refl _) (.cons (.refl _) .nil)) (hac := l1.h) (hK := ?_) | refine cQV (hfit := .cons (.refl _) (.cons (.refl _) .nil)) (hac := l1.h) (hK := ?_) | refine cV (hfit := .cons (.refl _) (.cons (.refl _) .nil)) (hac := l2.h) (hK := ?_) | refine cQV (hfit := .cons (.refl _) (.cons (.refl _) .nil)) (hac := l2.h) (hK := ?_)))); simp (maxSteps := 1000000) (dsimp := false) (implicitDefEqProofs := false) (disch := omega) only [wrap64, go_sem]) | apply_assumption -exfalso -symm)
          all_goals (first | (show endQ _ _ _ _ _ _ _; (repeat (rename (∀ (A : Fr) (H : Hp), AWP _ _ _ _ A H → _) => hK; clear hK)); (repeat (rename (Fr → Hp → Prop) => K; clear K))) | (show Exists _; (repeat (rename (∀ (A : Fr) (H : Hp), AWP _ _ _ _ A H → _) => hK; clear hK)); (repeat (rename (Fr → Hp → Prop) => K; clear K))) | skip)
          all_goals first | exact end_retV rfl rfl | (exfalso; omega)
        | false =>
          rw [hsc] at s1 s2
          have s1 := Hold.mk s1
          have s2 := Hold.mk s2
          clear hsc
          repeat' (first | ((first | refine atF (f := 7) ?_ | refine atQ (f := 7) ?_); (refine callX cf.h (by rintro _ rfl s; simp only [scrub_tup, scF_vecF, List.map_cons, List.map_nil]; rfl) (fun r hq => ?_); subst hq) <;> simp (maxSteps := 1000000) (dsimp := false) (implicitDefEqProofs := false) (disch := omega) only [wrap64, go_sem]) | ((first | refine atF (f := 8) ?_ | refine atQ (f := 8) ?_); (refine callX sf.h (by rintro _ ⟨x, _, rfl⟩ s; simp only [scrub_tup, scF_vecF, List.map_cons, List.map_nil]; rfl) (fun r hq => ?_); obtain ⟨ys, hys, rfl⟩ := hq) <;> simp (maxSteps := 1000000) (dsimp := false) (implicitDefEqProofs := false) (disch := omega) only [wrap64, go_sem]) | refine awp_seqK fun K hK => ?_ | (refine awp_regionK 6044629386338706397380349 rfl ?_; simp only [List.map_cons, List.map_nil]; simp (maxSteps := 1000000) (dsimp := false) (implicitDefEqProofs := false) (disch := omega) only [wrap64, go_sem]) | (refine awp_regionQK 6044629386338706397380349 (by kernel_rfl) (by kernel_rfl) (by kernel_rfl) ?_; simp only [List.map_cons, List.map_nil]; simp (maxSteps := 1000000) (dsimp := false) (implicitDefEqProofs := false) (disch := omega) only [wrap64, go_sem]) | refine awp_block ?_ | (refine awp_skip ?_; simp only [go_sem]) | (refine awp_exit ?_; simp only [go_sem]) | (refine awp_ret ?_; try simp only [go_sem]) | (refine awp_condP rfl ?_; try simp only [go_sem]) | (refine BrP.mk (fun h => ?_) (fun h => ?_) <;> try simp (dsimp := false) (disch := omega) only [wrap64]) | (refine Br.mk (fun h => ?_) (fun h => ?_) <;> try simp (dsimp := false) (disch := omega) only [wrap64]) | refine Ob.mk (by first | omega | (intro _ _; rfl) | trivial | (intros; trivial) | assumption | (intro i hi; have h0 : i = 0 := (by omega); subst h0; first | rfl | trivial) | (intro i hi; have h0 : i = 0 ∨ i = 1 := (by omega); rcases h0 with rfl | rfl <;> rfl) | (intro i hi; have h0 : i = 0 ∨ i = 1 ∨ i = 2 := (by omega); rcases h0 with rfl | rfl | rfl <;> rfl)) ?_ | ((first | ((first | refine atF (f := 6) ?_ | refine atQ (f := 6) ?_); (first | refine cV (hfit := .cons (.refl _) (.cons (.refl _) .nil)) (hac := s1.h) (hK := ?_) | refine cQV (hfit := .cons (.refl _) (.cons (.refl _) .nil)) (hac := s1.h) (hK := ?_) | refine cV (hfit := .cons (.refl _) (.cons (.refl _) .nil)) (hac := s3.h) (hK := ?_) | refine cQV (hfit := .cons (.refl _) (.cons (.refl _) .nil)) (hac := s3.h) (hK := ?_))) | ((first | refine atF (f := 9) ?_ | refine atQ (f := 9) ?_); (first | refine cV (hfit := .cons (.refl _) (.cons (.refl _) .nil)) (hac := s2.h) (hK := ?_) | refine cQV (hfit := .cons (.refl _) (.cons (.refl _) .nil)) (hac := s2.h) (hK := ?_))) | ((first | refine atF (f := 10) ?_ | refine atQ (f := 10) ?_); (first | refine cV (hfit := .cons (.refl _) .nil) (hac := i1.h) (hK := ?_) | refine cQV (hfit := .cons (.refl _) .nil) (hac := i1.h) (hK := ?_) | refine cV (hfit := .cons (.refl _) .nil) (hac := i2.h) (hK := ?_) | refine cQV (hfit := .cons (.refl _) .nil) (hac := i2.h) (hK := ?_))) | ((first | refine atF (f := 11) ?_ | refine atQ (f := 11) ?_); (first | refine cFIB (hac := c1.h 40) (hK := ?_))) | ((first | refine atF (f := 13) ?_ | refine atQ (f := 13) ?_); (first | refine cFI (hac := t1.h 42) (hK := ?_) | refine cFI (hac := t2.h 43) (hK := ?_) | refine cQI (hac := t1.h 42) (hK := ?_) | refine cQI (hac := t2.h 43) (hK := ?_))) | ((first | refine atF (f := 12) ?_ | refine atQ (f := 12) ?_); (first | refine cV (hfit := .cons (.refl _) (.cons (.refl _) .nil)) (hac := l1.h) (hK := ?_) | refine cQV (hfit := .cons (.refl _) (.cons (.refl _) .nil)) (hac := l1.h) (hK := ?_) | refine cV (hfit := .cons (.refl _) (.cons (.refl _) .nil)) (hac := l2.h) (hK := ?_) | refine cQV (hfit := .cons (.refl _) (.cons (.refl _) .nil)) (hac := l2.h) (hK := ?_)))); simp (maxSteps := 1000000) (dsimp := false) (implicitDefEqProofs := false) (disch := omega) only [wrap64, go_sem]) | apply_assumption -exfalso -symm)
          all_goals (first | (show endQ _ _ _ _ _ _ _; (repeat (rename (∀ (A : Fr) (H : Hp), AWP _ _ _ _ A H → _) => hK; clear hK)); (repeat (rename (Fr → Hp → Prop) => K; clear K))) | (show Exists _; (repeat (rename (∀ (A : Fr) (H : Hp), AWP _ _ _ _ A H → _) => hK; clear hK)); (repeat (rename (Fr → Hp → Prop) => K; clear K))) | skip)
          all_goals first | exact end_retV rfl rfl | (exfalso; omega)
    · have hC : ¬ (sctP p q ∧ p.length ≤ 7) := fun h => hS h.1.1
      have cf : AC Try.prog 7 [ints p, ints q] Hp.emp (fun _ => false) (postX fun r => r = .tup 2 (vecF [ints [], .v (.bool (false))])) := by
        have e : fcQ p q = fun r => r = .tup 2 (vecF [ints [], .v (.bool (false))]) := by
          funext r; unfold fcQ; rw [if_neg hC]
        rwa [e] at cf
      unfold sfQ at sf
      rw [decide_eq_false hC] at sf
      rw [decide_eq_false fun h : sctP p q => hS h.1] at s1 s2
      have hno : isPerm p → isPerm q → p.length = q.length → False := fun a b c => hS ⟨c, a, b⟩
      have hno := Hold.mk hno
      have s1 := Hold.mk s1
      have s2 := Hold.mk s2
      have cf := Hold.mk cf
      have sf := Hold.mk sf
      clear hS hC i1 i2 c1
      repeat' (first | ((first | refine atF (f := 7) ?_ | refine atQ (f := 7) ?_); (refine callX cf.h (by rintro _ rfl s; simp only [scrub_tup, scF_vecF, List.map_cons, List.map_nil]; rfl) (fun r hq => ?_); subst hq) <;> simp (maxSteps := 1000000) (dsimp := false) (implicitDefEqProofs := false) (disch := omega) only [wrap64, go_sem]) | ((first | refine atF (f := 8) ?_ | refine atQ (f := 8) ?_); (refine callX sf.h (by rintro _ ⟨x, _, rfl⟩ s; simp only [scrub_tup, scF_vecF, List.map_cons, List.map_nil]; rfl) (fun r hq => ?_); obtain ⟨ys, hys, rfl⟩ := hq) <;> simp (maxSteps := 1000000) (dsimp := false) (implicitDefEqProofs := false) (disch := omega) only [wrap64, go_sem]) | refine awp_seqK fun K hK => ?_ | (refine awp_regionK 6044629386338706397380349 rfl ?_; simp only [List.map_cons, List.map_nil]; simp (maxSteps := 1000000) (dsimp := false) (implicitDefEqProofs := false) (disch := omega) only [wrap64, go_sem]) | (refine awp_regionQK 6044629386338706397380349 (by kernel_rfl) (by kernel_rfl) (by kernel_rfl) ?_; simp only [List.map_cons, List.map_nil]; simp (maxSteps := 1000000) (dsimp := false) (implicitDefEqProofs := false) (disch := omega) only [wrap64, go_sem]) | refine awp_block ?_ | (refine awp_skip ?_; simp only [go_sem]) | (refine awp_exit ?_; simp only [go_sem]) | (refine awp_ret ?_; try simp only [go_sem]) | (refine awp_condP rfl ?_; try simp only [go_sem]) | (refine BrP.mk (fun h => ?_) (fun h => ?_) <;> try simp (dsimp := false) (disch := omega) only [wrap64]) | (refine Br.mk (fun h => ?_) (fun h => ?_) <;> try simp (dsimp := false) (disch := omega) only [wrap64]) | refine Ob.mk (by first | omega | (intro _ _; rfl) | trivial | (intros; trivial) | assumption | (intro i hi; have h0 : i = 0 := (by omega); subst h0; first | rfl | trivial) | (intro i hi; have h0 : i = 0 ∨ i = 1 := (by omega); rcases h0 with rfl | rfl <;> rfl) | (intro i hi; have h0 : i = 0 ∨ i = 1 ∨ i = 2 := (by omega); rcases h0 with rfl | rfl | rfl <;> rfl)) ?_ | ((first | ((first | refine atF (f := 6) ?_ | refine atQ (f := 6) ?_); (first | refine cV (hfit := .cons (.refl _) (.cons (.refl _) .nil)) (hac := s1.h) (hK := ?_) | refine cQV (hfit := .cons (.refl _) (.cons (.refl _) .nil)) (hac := s1.h) (hK := ?_))) | ((first | refine atF (f := 9) ?_ | refine atQ (f := 9) ?_); (first | refine cV (hfit := .cons (.refl _) (.cons (.refl _) .nil)) (hac := s2.h) (hK := ?_) | refine cQV (hfit := .cons (.refl _) (.cons (.refl _) .nil)) (hac := s2.h) (hK := ?_))) | ((first | refine atF (f := 10) ?_ | refine atQ (f := 10) ?_); (first | (refine cV (hac := specIsPermutation_ok p) (hK := ?_)) | (refine cQV (hac := specIsPermutation_ok p) (hK := ?_)))) | ((first | refine atF (f := 10) ?_ | refine atQ (f := 10) ?_); (first | (refine cV (hac := specIsPermutation_ok q) (hK := ?_)) | (refine cQV (hac := specIsPermutation_ok q) (hK := ?_))))); simp (maxSteps := 1000000) (dsimp := false) (implicitDefEqProofs := false) (disch := omega) only [wrap64, go_sem]) | apply_assumption -exfalso -symm)
      all_goals (first | (show endQ _ _ _ _ _ _ _; (repeat (rename (∀ (A : Fr) (H : Hp), AWP _ _ _ _ A H → _) => hK; clear hK)); (repeat (rename (Fr → Hp → Prop) => K; clear K))) | (show Exists _; (repeat (rename (∀ (A : Fr) (H : Hp), AWP _ _ _ _ A H → _) => hK; clear hK)); (repeat (rename (Fr → Hp → Prop) => K; clear K))) | skip)
      all_goals first | exact end_retV rfl rfl | exact (hno.h (by assumption) (by assumption) (by omega)).elim
end Go.Proofs.Ytpffmolibjimgaa
