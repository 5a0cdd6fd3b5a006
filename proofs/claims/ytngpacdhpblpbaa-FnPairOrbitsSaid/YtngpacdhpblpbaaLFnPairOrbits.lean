import Derived.Test.YtngpacdhpblpbaaO15
namespace Go.Proofs.Ytngpacdhpblpbaa
open Go.Av
set_option linter.unusedSimpArgs false
set_option linter.unusedVariables false
attribute [local irreducible] AWP CallG Ob Br BrP Go.Av.Sub endQ AOps OpV AC thenA blkA opsVC opVC withA withArgs opsQ opQ CallQ withA2 withArgs2
open Go.Pm (Pm Rch img comp invp orbF clsF clsN partK loR)
theorem ivGens_all (gs : List (List Int)) : ivGens gs gs.length = gs.map invp := by unfold ivGens; rw [List.take_length]
theorem ivGens_isGens {n : Int} {gs : List (List Int)} (h : isGens n gs) : isGens n (ivGens gs gs.length) := by
  obtain ⟨h1, h2, h3, h4, h5⟩ := gens_P h
  have hl := ivGens_len gs gs.length (Nat.le_refl _)
  refine ⟨h.1, by rw [hl]; exact h.2.1, fun k hk => ?_⟩
  rw [hl] at hk
  have e : (ivGens gs gs.length).getD k [] = invp (gs.getD k []) := by rw [ivGens_all]; simp [List.getD_eq_getElem?_getD, hk]
  have hp := (h1.2.2 k hk).inv
  rw [e]
  exact ⟨by rw [hp.1]; omega, (isPerm_pm _).2 ⟨by rw [hp.1]; omega, by rw [hp.1]; exact hp⟩⟩
theorem orbP_inv {n : Int} {gs : List (List Int)} (h : isGens n gs) : orbP n (ivGens gs gs.length) = orbP n gs := by
  have hi := ivGens_isGens h
  obtain ⟨h1, _⟩ := gens_pm h
  unfold orbP
  rw [if_pos h, if_pos hi, ivGens_all]
  exact Go.Pm.partK_congr (R := Rch (gs.map invp)) (R' := Rch gs) (fun x y hx hy => Go.Pm.Rch.invs h1 hx) (Nat.le_refl _)
theorem pocP_inv {n : Int} {gs : List (List Int)} (h : isGens n gs) : pocP n (ivGens gs gs.length) = pocP n gs := by
  have hi := ivGens_isGens h
  obtain ⟨h1, _⟩ := gens_pm h
  unfold pocP
  rw [if_pos h, if_pos hi, ivGens_all, Go.Pm.cntK_inv h1 _ (Nat.le_refl _)]
theorem pocP_pos {n : Int} {gs : List (List Int)} (h : isGens n gs) (hn : n ≠ 1) : 0 < pocP n gs := by
  obtain ⟨h1, h2, h3⟩ := gens_pm h
  have := Go.Pm.cntK_pos h1 (by have := h.1; omega)
  unfold pocP
  rw [if_pos h]; omega
theorem orbP_row (n : Int) (gs : List (List Int)) (j : Nat) : ((orbP n gs).getD j []).length ≤ 20 := by
  by_cases hj : j < (orbP n gs).length
  · have hm : (orbP n gs).getD j [] ∈ orbP n gs := by rw [List.getD_eq_getElem?_getD, List.getElem?_eq_getElem hj]; exact List.getElem_mem hj
    obtain ⟨b, eb⟩ : ∃ b, b = (orbP n gs).getD j [] := ⟨_, rfl⟩
    rw [← eb] at hm ⊢
    unfold orbP at hm
    split at hm
    · rename_i h
      obtain ⟨x, _, _, rfl⟩ := Go.Pm.mem_partK.1 hm
      have := Go.Pm.clsF_len (n := n.toNat) (R := Rch gs) (x := x)
      have := gens_pm h
      omega
    · cases hm
  · rw [List.getD_eq_getElem?_getD, List.getElem?_eq_none (by omega)]; exact Nat.zero_le _
theorem igP_row (n : Int) (gs : List (List Int)) (j : Nat) : ((igP n gs).getD j []).length ≤ 20 := by
  unfold igP
  split
  · rename_i h
    obtain ⟨h1, h2, h3, h4, h5⟩ := gens_P h
    by_cases hj : j < gs.length
    · have e : (ivGens gs gs.length).getD j [] = invp (gs.getD j []) := by rw [ivGens_all]; simp [List.getD_eq_getElem?_getD, hj]
      rw [e, (h1.2.2 j hj).inv.1]; omega
    · rw [List.getD_eq_getElem?_getD, List.getElem?_eq_none (by rw [ivGens_len gs _ (Nat.le_refl _)]; omega)]; exact Nat.zero_le _
  · exact Nat.zero_le _
set_option maxHeartbeats 8000000 in
theorem lawPairOrbits_ok (xs : List Int) (hl : xs.length ≤ 9223372036854775807) (hb : ∀ j, 0 ≤ xs.getD j 0 ∧ xs.getD j 0 ≤ 255) : AC Try.prog 4 [bts xs] Hp.emp (fun _ => false) (retV (.v (.bool (true)))) := by
  refine ac_of_awp (N := ⟨_, fun _ => false, fun _ _ => rfl⟩) Try.func4 rfl (by kernel_rfl) Try.ntmps4 (by simp) ?_
  simp only [argsFr, List.zipIdx_cons, List.zipIdx_nil, go_sem]
  repeat' (first | ((first | refine atF (f := 21) ?_ | refine atQ (f := 21) ?_); (refine callX (drawPairOrbitCount_ok xs hb (by omega)) (by rintro _ ⟨v, _, rfl⟩ p; simp only [scrub_tup, scF_vecF, List.map_cons, List.map_nil]; rfl) (fun r hq => ?_); obtain ⟨⟨n, gs⟩, ⟨hn, hgl, _⟩, rfl⟩ := hq) <;> simp (maxSteps := 1000000) (dsimp := false) (implicitDefEqProofs := false) (disch := omega) only [wrap64, go_sem]) | refine awp_seqK fun K hK => ?_ | (refine awp_regionK 73014444413 rfl ?_; simp only [List.map_cons, List.map_nil]; simp (maxSteps := 1000000) (dsimp := false) (implicitDefEqProofs := false) (disch := omega) only [wrap64, go_sem]) | (refine awp_regionQK 73014444413 (by kernel_rfl) (by kernel_rfl) (by kernel_rfl) ?_; simp only [List.map_cons, List.map_nil]; simp (maxSteps := 1000000) (dsimp := false) (implicitDefEqProofs := false) (disch := omega) only [wrap64, go_sem]) | refine awp_block ?_ | (refine awp_skip ?_; simp only [go_sem]) | (refine awp_exit ?_; simp only [go_sem]) | (refine awp_ret ?_; try simp only [go_sem]) | (refine awp_condP rfl ?_; try simp only [go_sem]) | (refine BrP.mk (fun h => ?_) (fun h => ?_) <;> try simp (dsimp := false) (disch := omega) only [wrap64]) | (refine Br.mk (fun h => ?_) (fun h => ?_) <;> try simp (dsimp := false) (disch := omega) only [wrap64]) | refine Ob.mk (by first | omega | (intro _ _; rfl) | trivial | (intros; trivial) | assumption | (intro i hi; have h0 : i = 0 := (by omega); subst h0; first | rfl | trivial) | (intro i hi; have h0 : i = 0 ∨ i = 1 := (by omega); rcases h0 with rfl | rfl <;> rfl) | (intro i hi; have h0 : i = 0 ∨ i = 1 ∨ i = 2 := (by omega); rcases h0 with rfl | rfl | rfl <;> rfl)) ?_ | ((first | ((first | refine atF (f := 9) ?_ | refine atQ (f := 9) ?_); (first | (refine cV (hac := big_ok xs) (hK := ?_)) | (refine cQV (hac := big_ok xs) (hK := ?_))))); simp (maxSteps := 1000000) (dsimp := false) (implicitDefEqProofs := false) (disch := omega) only [wrap64, go_sem]) | apply_assumption -exfalso -symm)
  all_goals (first | (show endQ _ _ _ _ _ _ _; (repeat (rename (∀ (A : Fr) (H : Hp), AWP _ _ _ _ A H → _) => hK; clear hK)); (repeat (rename (Fr → Hp → Prop) => K; clear K))) | (show Exists _; (repeat (rename (∀ (A : Fr) (H : Hp), AWP _ _ _ _ A H → _) => hK; clear hK)); (repeat (rename (Fr → Hp → Prop) => K; clear K))) | skip)
  · exact end_retV rfl rfl
  · dsimp only at hn hgl ⊢
    have hn64 : -9223372036854775808 ≤ n ∧ n ≤ 9223372036854775807 := by unfold r64 at hn; omega
    have hol := orbP_len n gs
    have hor := Hold.mk (orbP_row n gs)
    have hir := Hold.mk (igP_row n gs)
    by_cases hok : isGens n gs
    · have hd : decide (isGens n gs) = true := decide_eq_true hok
      obtain ⟨g1, g2, g3, g4, g5⟩ := gens_P hok
      have hig : igP n gs = ivGens gs gs.length := if_pos hok
      have hil := ivGens_len gs gs.length (Nat.le_refl _)
      have hpos := pocP_pos hok
      have hpos := Hold.mk hpos
      have e1 := orbP_inv hok
      have e2 := pocP_inv hok
      rw [hig] at hir
      repeat' (first | refine awp_seqK fun K hK => ?_ | (refine awp_regionK 73014444413 rfl ?_; simp only [List.map_cons, List.map_nil]; simp (maxSteps := 1000000) (dsimp := false) (implicitDefEqProofs := false) (disch := omega) only [wrap64, go_sem, hig, beq_self_eq_true, hd, e2, e1]) | (refine awp_regionQK 73014444413 (by kernel_rfl) (by kernel_rfl) (by kernel_rfl) ?_; simp only [List.map_cons, List.map_nil]; simp (maxSteps := 1000000) (dsimp := false) (implicitDefEqProofs := false) (disch := omega) only [wrap64, go_sem, hig, beq_self_eq_true, hd, e2, e1]) | refine awp_block ?_ | (refine awp_skip ?_; simp only [go_sem, hig, beq_self_eq_true, hd, e2, e1]) | (refine awp_exit ?_; simp only [go_sem, hig, beq_self_eq_true, hd, e2, e1]) | (refine awp_ret ?_; try simp only [go_sem, hig, beq_self_eq_true, hd, e2, e1]) | (refine awp_condP rfl ?_; try simp only [go_sem, hig, beq_self_eq_true, hd, e2, e1]) | (refine BrP.mk (fun h => ?_) (fun h => ?_) <;> try simp (dsimp := false) (disch := omega) only [wrap64]) | (refine Br.mk (fun h => ?_) (fun h => ?_) <;> try simp (dsimp := false) (disch := omega) only [wrap64]) | refine Ob.mk (by first | omega | (intro _ _; rfl) | trivial | (intros; trivial) | assumption | (intro i hi; have h0 : i = 0 := (by omega); subst h0; first | rfl | trivial) | (intro i hi; have h0 : i = 0 ∨ i = 1 := (by omega); rcases h0 with rfl | rfl <;> rfl) | (intro i hi; have h0 : i = 0 ∨ i = 1 ∨ i = 2 := (by omega); rcases h0 with rfl | rfl | rfl <;> rfl)) ?_ | ((first | ((first | refine atF (f := 22) ?_ | refine atQ (f := 22) ?_); (first | (refine cV (hac := implPairOrbitCount_ok n gs) (hK := ?_)) | (refine cQV (hac := implPairOrbitCount_ok n gs) (hK := ?_)))) | ((first | refine atF (f := 24) ?_ | refine atQ (f := 24) ?_); (first | (refine cV (hac := specPairOrbitCount_ok n gs) (hK := ?_)) | (refine cQV (hac := specPairOrbitCount_ok n gs) (hK := ?_)))) | ((first | refine atF (f := 23) ?_ | refine atQ (f := 23) ?_); (first | (refine cR (hac := implInverseGenerators_ok n gs) (hK := ?_)) | (refine cQR (hac := implInverseGenerators_ok n gs) (hK := ?_)))) | ((first | refine atF (f := 26) ?_ | refine atQ (f := 26) ?_); (first | (refine cR (hac := specInverseGenerators_ok n gs) (hK := ?_)) | (refine cQR (hac := specInverseGenerators_ok n gs) (hK := ?_)))) | ((first | refine atF (f := 25) ?_ | refine atQ (f := 25) ?_); (first | (refine cV (hac := likeLists_ok (ivGens gs gs.length) (ivGens gs gs.length) (by omega) (fun j => by have := hir.h j; omega)) (hK := ?_)) | (refine cQV (hac := likeLists_ok (ivGens gs gs.length) (ivGens gs gs.length) (by omega) (fun j => by have := hir.h j; omega)) (hK := ?_)))) | ((first | refine atF (f := 27) ?_ | refine atQ (f := 27) ?_); (first | (refine cV (hac := specIsGeneratorSet_ok n gs) (hK := ?_)) | (refine cQV (hac := specIsGeneratorSet_ok n gs) (hK := ?_)))) | ((first | refine atF (f := 22) ?_ | refine atQ (f := 22) ?_); (first | (refine cV (hac := implPairOrbitCount_ok n (ivGens gs gs.length)) (hK := ?_)) | (refine cQV (hac := implPairOrbitCount_ok n (ivGens gs gs.length)) (hK := ?_)))) | ((first | refine atF (f := 28) ?_ | refine atQ (f := 28) ?_); (first | (refine cR (hac := implOrbits_ok n (ivGens gs gs.length)) (hK := ?_)) | (refine cQR (hac := implOrbits_ok n (ivGens gs gs.length)) (hK := ?_)))) | ((first | refine atF (f := 29) ?_ | refine atQ (f := 29) ?_); (first | (refine cR (hac := specOrbits_ok n gs (by omega)) (hK := ?_)) | (refine cQR (hac := specOrbits_ok n gs (by omega)) (hK := ?_)))) | ((first | refine atF (f := 25) ?_ | refine atQ (f := 25) ?_); (first | (refine cV (hac := likeLists_ok (orbP n gs) (orbP n gs) (by omega) (fun j => by have := hor.h j; omega)) (hK := ?_)) | (refine cQV (hac := likeLists_ok (orbP n gs) (orbP n gs) (by omega) (fun j => by have := hor.h j; omega)) (hK := ?_))))); simp (maxSteps := 1000000) (dsimp := false) (implicitDefEqProofs := false) (disch := omega) only [wrap64, go_sem, hig, beq_self_eq_true, hd, e2, e1]) | apply_assumption -exfalso -symm)
      all_goals (first | (show endQ _ _ _ _ _ _ _; (repeat (rename (∀ (A : Fr) (H : Hp), AWP _ _ _ _ A H → _) => hK; clear hK)); (repeat (rename (Fr → Hp → Prop) => K; clear K))) | (show Exists _; (repeat (rename (∀ (A : Fr) (H : Hp), AWP _ _ _ _ A H → _) => hK; clear hK)); (repeat (rename (Fr → Hp → Prop) => K; clear K))) | skip)
      · exact end_retV rfl rfl
      · exact end_retV' rfl rfl (by rw [decide_eq_true (hpos.h (by assumption))])
    · have hd : decide (isGens n gs) = false := decide_eq_false hok
      have hig : igP n gs = [] := if_neg hok
      have hp0 : pocP n gs = 0 := if_neg hok
      repeat' (first | (show False; omega) | refine awp_seqK fun K hK => ?_ | (refine awp_regionK 73014444413 rfl ?_; simp only [List.map_cons, List.map_nil]; simp (maxSteps := 1000000) (dsimp := false) (implicitDefEqProofs := false) (disch := omega) only [wrap64, go_sem, hig, hp0, beq_self_eq_true, hd]) | (refine awp_regionQK 73014444413 (by kernel_rfl) (by kernel_rfl) (by kernel_rfl) ?_; simp only [List.map_cons, List.map_nil]; simp (maxSteps := 1000000) (dsimp := false) (implicitDefEqProofs := false) (disch := omega) only [wrap64, go_sem, hig, hp0, beq_self_eq_true, hd]) | refine awp_block ?_ | (refine awp_skip ?_; simp only [go_sem, hig, hp0, beq_self_eq_true, hd]) | (refine awp_exit ?_; simp only [go_sem, hig, hp0, beq_self_eq_true, hd]) | (refine awp_ret ?_; try simp only [go_sem, hig, hp0, beq_self_eq_true, hd]) | (refine awp_condP rfl ?_; try simp only [go_sem, hig, hp0, beq_self_eq_true, hd]) | (refine BrP.mk (fun h => ?_) (fun h => ?_) <;> try simp (dsimp := false) (disch := omega) only [wrap64]) | (refine Br.mk (fun h => ?_) (fun h => ?_) <;> try simp (dsimp := false) (disch := omega) only [wrap64]) | refine Ob.mk (by first | omega | (intro _ _; rfl) | trivial | (intros; trivial) | assumption | (intro i hi; have h0 : i = 0 := (by omega); subst h0; first | rfl | trivial) | (intro i hi; have h0 : i = 0 ∨ i = 1 := (by omega); rcases h0 with rfl | rfl <;> rfl) | (intro i hi; have h0 : i = 0 ∨ i = 1 ∨ i = 2 := (by omega); rcases h0 with rfl | rfl | rfl <;> rfl)) ?_ | ((first | ((first | refine atF (f := 22) ?_ | refine atQ (f := 22) ?_); (first | (refine cV (hac := implPairOrbitCount_ok n gs) (hK := ?_)) | (refine cQV (hac := implPairOrbitCount_ok n gs) (hK := ?_)))) | ((first | refine atF (f := 24) ?_ | refine atQ (f := 24) ?_); (first | (refine cV (hac := specPairOrbitCount_ok n gs) (hK := ?_)) | (refine cQV (hac := specPairOrbitCount_ok n gs) (hK := ?_)))) | ((first | refine atF (f := 23) ?_ | refine atQ (f := 23) ?_); (first | (refine cR (hac := implInverseGenerators_ok n gs) (hK := ?_)) | (refine cQR (hac := implInverseGenerators_ok n gs) (hK := ?_)))) | ((first | refine atF (f := 26) ?_ | refine atQ (f := 26) ?_); (first | (refine cR (hac := specInverseGenerators_ok n gs) (hK := ?_)) | (refine cQR (hac := specInverseGenerators_ok n gs) (hK := ?_)))) | ((first | refine atF (f := 25) ?_ | refine atQ (f := 25) ?_); (first | (refine cV (hac := likeLists_ok [] [] (by simp) (fun j => by simp)) (hK := ?_)) | (refine cQV (hac := likeLists_ok [] [] (by simp) (fun j => by simp)) (hK := ?_)))) | ((first | refine atF (f := 27) ?_ | refine atQ (f := 27) ?_); (first | (refine cV (hac := specIsGeneratorSet_ok n gs) (hK := ?_)) | (refine cQV (hac := specIsGeneratorSet_ok n gs) (hK := ?_))))); simp (maxSteps := 1000000) (dsimp := false) (implicitDefEqProofs := false) (disch := omega) only [wrap64, go_sem, hig, hp0, beq_self_eq_true, hd]) | apply_assumption -exfalso -symm)
      all_goals (first | (show endQ _ _ _ _ _ _ _; (repeat (rename (∀ (A : Fr) (H : Hp), AWP _ _ _ _ A H → _) => hK; clear hK)); (repeat (rename (Fr → Hp → Prop) => K; clear K))) | (show Exists _; (repeat (rename (∀ (A : Fr) (H : Hp), AWP _ _ _ _ A H → _) => hK; clear hK)); (repeat (rename (Fr → Hp → Prop) => K; clear K))) | skip)
      exact end_retV' rfl rfl (by simp)
end Go.Proofs.Ytngpacdhpblpbaa
