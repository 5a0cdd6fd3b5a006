import Derived.Test.YtcfnbahpdlmcpaaW11
namespace Go.Proofs.Ytcfnbahpdlmcpaa
open Go.Av
set_option linter.unusedSimpArgs false
set_option linter.unusedVariables false
attribute [local irreducible] AWP CallG Ob Br BrP Go.Av.Sub endQ AOps OpV AC thenA blkA opsVC opVC withA withArgs opsQ opQ CallQ withA2 withArgs2
open Go.Pm (Pm comp invp idn img)
open Go.Wd (fr frS)
theorem evW_iff {n : Int} {g : List (List Int)} {w : List Int} (h : (evW n g w).2 = true) : isGens n g ∧ isW g.length w := by
  unfold evW at h
  by_cases hc : isGens n g ∧ isW g.length w
  · exact hc
  · rw [if_neg hc] at h; cases h
theorem evW_of {n : Int} {g : List (List Int)} {w : List Int} (h : isGens n g) (hw : isW g.length w) : evW n g w = (evalP n.toNat g w, true) := if_pos ⟨h, hw⟩
theorem perm_of {n : Int} {g : List (List Int)} {p : List Int} (h : isGens n g) (hp : Pm n.toNat p) : isPerm p := by
  have h1 := h.1
  refine (isPerm_pm p).2 ⟨by rw [hp.1]; omega, ?_⟩
  rw [hp.1]; exact hp
theorem evW_all {n : Int} {g : List (List Int)} {w : List Int} {k : Nat} (h : (evW n g w).2 = true) : ∃ P A B : List Int, evW n g w = (P, true) ∧ evW n g (w.take k) = (A, true) ∧ evW n g (w.drop k) = (B, true) ∧ comp A B = P ∧ evW n g (invP w) = (invp P, true) ∧ evW n g (frW w) = (P, true) ∧ isPerm P ∧ (A.length = B.length ∧ isPerm A ∧ isPerm B) := by
  obtain ⟨hg, hw⟩ := evW_iff h
  have hG := gensP.of hg
  have hm := isW_mem hw
  have w1 : isW g.length (w.take k) := isW_sub hw (by have := hw.1; rw [List.length_take]; omega) fun x hx => List.mem_of_mem_take hx
  have w2 : isW g.length (w.drop k) := isW_sub hw (by have := hw.1; rw [List.length_drop]; omega) fun x hx => List.mem_of_mem_drop hx
  have e3 : invP w = inv w := if_pos (isW_wide hw)
  have e4 : frW w = fr w := if_pos (isW_wide hw)
  have w3 : isW g.length (inv w) := ⟨by rw [inv_length]; exact hw.1, fun j hj => by
    have hmem := mem_getD.2 ⟨j, hj, rfl⟩
    simp only [inv, List.mem_reverse, List.mem_map] at hmem
    obtain ⟨y, hy, e⟩ := hmem
    obtain ⟨i, hi, e2⟩ := mem_getD.1 hy
    have h1 := hw.2 i hi
    rw [e2] at h1
    have e' : (inv w).getD j 0 = -y := e.symm
    rw [e']
    unfold isL at h1 ⊢; omega⟩
  have w4 : isW g.length (fr w) := isW_sub hw (by have := hw.1; have := Go.Wd.fr_len w; omega) fun x hx => Go.Wd.mem_fr hx
  have pA := evalM_pm hG (isW_mem w1)
  have pB := evalM_pm hG (isW_mem w2)
  refine ⟨_, _, _, evW_of hg hw, evW_of hg w1, evW_of hg w2, ?_, ?_, ?_, perm_of hg (evalM_pm hG hm), by rw [pA.1, pB.1], perm_of hg pA, perm_of hg pB⟩
  · rw [← evalP_app hG (isW_mem w1) (isW_mem w2), List.take_append_drop]
  · rw [e3, evW_of hg w3, evalP_inv hG w hm]
  · rw [e4, evW_of hg w4, evalP_fr hG hm]
theorem evW_none {n : Int} {g : List (List Int)} {w : List Int} (h : ¬ (evW n g w).2 = true) : ∃ P : List Int, evW n g w = (P, false) ∧ P.length = 0 := by
  refine ⟨[], ?_, rfl⟩
  unfold evW at h ⊢
  by_cases hc : isGens n g ∧ isW g.length w
  · rw [if_pos hc] at h; exact absurd rfl h
  · rw [if_neg hc]
theorem fits_D {H : Hp} {D : Nat → Prop} (xs : List Int) (k : Nat) : Fits H D (.list false 1 (xs.length - k) (cM iv 0 (xs.drop k))) (ints (xs.drop k)) := by
  show Fits H D _ (.list false 1 (xs.drop k).length (cM iv 0 (xs.drop k)))
  rw [List.length_drop]; exact .refl _
theorem evT_scrub (p : Nat → Bool) (a : List Int) (b : Bool) : (AV.tup 2 (vecF [ints a, .v (.bool (b))])).scrub p = .tup 2 (vecF [ints a, .v (.bool (b))]) := by
  simp only [scrub_tup, scF_vecF, List.map_cons, List.map_nil]; rfl
set_option maxHeartbeats 8000000 in
theorem lawWordEvaluation_ok (xs : List Int) (hl : xs.length ≤ 9223372036854775807) (hb : ∀ j, 0 ≤ xs.getD j 0 ∧ xs.getD j 0 ≤ 255) : AC Try.prog 5 [bts xs] Hp.emp (fun _ => false) (retV (.v (.bool (true)))) := by
  refine ac_of_awp (N := ⟨_, fun _ => false, fun _ _ => rfl⟩) Try.func5 rfl (by kernel_rfl) Try.ntmps5 (by simp) ?_
  simp only [argsFr, List.zipIdx_cons, List.zipIdx_nil, go_sem]
  repeat' (first | ((first | refine atF (f := 40) ?_ | refine atQ (f := 40) ?_); (refine callX (drawEvaluateWord_ok xs hb (by omega)) (by rintro _ ⟨v, _, rfl⟩ p; simp only [scrub_tup, scF_vecF, List.map_cons, List.map_nil]; rfl) (fun r hq => ?_); obtain ⟨⟨n, gs, w⟩, ⟨⟨hn, hgl, _⟩, hwl, _⟩, rfl⟩ := hq) <;> simp (maxSteps := 1000000) (dsimp := false) (implicitDefEqProofs := false) (disch := omega) only [wrap64, go_sem]) | refine awp_seqK fun K hK => ?_ | (refine awp_regionK 11258999074717693 rfl ?_; simp only [List.map_cons, List.map_nil]; simp (maxSteps := 1000000) (dsimp := false) (implicitDefEqProofs := false) (disch := omega) only [wrap64, go_sem]) | (refine awp_regionQK 11258999074717693 (by kernel_rfl) (by kernel_rfl) (by kernel_rfl) ?_; simp only [List.map_cons, List.map_nil]; simp (maxSteps := 1000000) (dsimp := false) (implicitDefEqProofs := false) (disch := omega) only [wrap64, go_sem]) | refine awp_block ?_ | (refine awp_skip ?_; simp only [go_sem]) | (refine awp_exit ?_; simp only [go_sem]) | (refine awp_ret ?_; try simp only [go_sem]) | (refine awp_condP rfl ?_; try simp only [go_sem]) | (refine BrP.mk (fun h => ?_) (fun h => ?_) <;> try simp (dsimp := false) (disch := omega) only [wrap64]) | (refine Br.mk (fun h => ?_) (fun h => ?_) <;> try simp (dsimp := false) (disch := omega) only [wrap64]) | refine Ob.mk (by first | omega | (intro _ _; rfl) | trivial | (intros; trivial) | assumption | (intro i hi; have h0 : i = 0 := (by omega); subst h0; first | rfl | trivial) | (intro i hi; have h0 : i = 0 ∨ i = 1 := (by omega); rcases h0 with rfl | rfl <;> rfl) | (intro i hi; have h0 : i = 0 ∨ i = 1 ∨ i = 2 := (by omega); rcases h0 with rfl | rfl | rfl <;> rfl)) ?_ | ((first | ((first | refine atF (f := 18) ?_ | refine atQ (f := 18) ?_); (first | (refine cV (hac := big_ok xs) (hK := ?_)) | (refine cQV (hac := big_ok xs) (hK := ?_))))); simp (maxSteps := 1000000) (dsimp := false) (implicitDefEqProofs := false) (disch := omega) only [wrap64, go_sem]) | apply_assumption -exfalso -symm)
  all_goals (first | (show endQ _ _ _ _ _ _ _; (repeat (rename (∀ (A : Fr) (H : Hp), AWP _ _ _ _ A H → _) => hK; clear hK)); (repeat (rename (Fr → Hp → Prop) => K; clear K))) | (show Exists _; (repeat (rename (∀ (A : Fr) (H : Hp), AWP _ _ _ _ A H → _) => hK; clear hK)); (repeat (rename (Fr → Hp → Prop) => K; clear K))) | skip)
  · exact end_retV rfl rfl
  · dsimp only at hgl hwl ⊢
    by_cases hok : (evW n gs w).2 = true
    · obtain ⟨P, A, B, e0, e1, e2, e5, e3, e4, hP, hAB⟩ := evW_all (k := w.length / 2) hok
      have htd : (w.length : Int).tdiv 2 = ((w.length / 2 : Nat) : Int) := by rw [Int.tdiv_eq_ediv_of_nonneg (by omega)]; rfl
      have hPl := hP.1
      have hPi : (invp P).length = P.length := by simp [invp]
      repeat' (first | refine awp_seqK fun K hK => ?_ | (refine awp_regionK 11258999074717693 rfl ?_; simp only [List.map_cons, List.map_nil]; simp (maxSteps := 1000000) (dsimp := false) (implicitDefEqProofs := false) (disch := omega) only [wrap64, go_sem, e0, e1, e2, e3, e4, e5, htd, Nat.sub_zero, Int.toNat_natCast]) | (refine awp_regionQK 11258999074717693 (by kernel_rfl) (by kernel_rfl) (by kernel_rfl) ?_; simp only [List.map_cons, List.map_nil]; simp (maxSteps := 1000000) (dsimp := false) (implicitDefEqProofs := false) (disch := omega) only [wrap64, go_sem, e0, e1, e2, e3, e4, e5, htd, Nat.sub_zero, Int.toNat_natCast]) | refine awp_block ?_ | (refine awp_skip ?_; simp only [go_sem, e0, e1, e2, e3, e4, e5, htd, Nat.sub_zero, Int.toNat_natCast]) | (refine awp_exit ?_; simp only [go_sem, e0, e1, e2, e3, e4, e5, htd, Nat.sub_zero, Int.toNat_natCast]) | (refine awp_ret ?_; try simp only [go_sem, e0, e1, e2, e3, e4, e5, htd, Nat.sub_zero, Int.toNat_natCast]) | (refine awp_condP rfl ?_; try simp only [go_sem, e0, e1, e2, e3, e4, e5, htd, Nat.sub_zero, Int.toNat_natCast]) | (refine BrP.mk (fun h => ?_) (fun h => ?_) <;> try simp (dsimp := false) (disch := omega) only [wrap64]) | (refine Br.mk (fun h => ?_) (fun h => ?_) <;> try simp (dsimp := false) (disch := omega) only [wrap64]) | refine Ob.mk (by first | omega | (intro _ _; rfl) | trivial | (intros; trivial) | assumption | (intro i hi; have h0 : i = 0 := (by omega); subst h0; first | rfl | trivial) | (intro i hi; have h0 : i = 0 ∨ i = 1 := (by omega); rcases h0 with rfl | rfl <;> rfl) | (intro i hi; have h0 : i = 0 ∨ i = 1 ∨ i = 2 := (by omega); rcases h0 with rfl | rfl | rfl <;> rfl)) ?_ | ((first | ((first | refine atF (f := 41) ?_ | refine atQ (f := 41) ?_); (first | refine cR (hac := implEvaluateWord_ok n gs w (by omega)) (hK := ?_) (hs := evT_scrub _ _ _) | refine callRk Hp.emp (Hp.le_emp _) (.cons (.refl _) (.cons (.refl _) (.cons (fits_T rfl (by omega)) .nil))) (implEvaluateWord_ok n gs (w.take (w.length / 2)) (by omega)) (evT_scrub _ _ _) ?_ | refine callRk Hp.emp (Hp.le_emp _) (.cons (.refl _) (.cons (.refl _) (.cons (fits_D _ _) .nil))) (implEvaluateWord_ok n gs (w.drop (w.length / 2)) (by omega)) (evT_scrub _ _ _) ?_ | refine cR (hac := implEvaluateWord_ok n gs (invP w) (by omega)) (hK := ?_) (hs := evT_scrub _ _ _) | refine cR (hac := implEvaluateWord_ok n gs (frW w) (by omega)) (hK := ?_) (hs := evT_scrub _ _ _))) | ((first | refine atF (f := 42) ?_ | refine atQ (f := 42) ?_); (refine cR (hac := specEvaluateWord_ok n gs w (by omega)) (hK := ?_) (hs := evT_scrub _ _ _))) | ((first | refine atF (f := 21) ?_ | refine atQ (f := 21) ?_); (first | (refine cV (hac := likeInts_ok P P (by omega)) (hK := ?_)) | (refine cQV (hac := likeInts_ok P P (by omega)) (hK := ?_)))) | ((first | refine atF (f := 21) ?_ | refine atQ (f := 21) ?_); (first | (refine cV (hac := likeInts_ok (invp P) (invp P) (by omega)) (hK := ?_)) | (refine cQV (hac := likeInts_ok (invp P) (invp P) (by omega)) (hK := ?_)))) | ((first | refine atF (f := 43) ?_ | refine atQ (f := 43) ?_); (refine cFIB (hac := implComposeU_ok A B hAB 100) (hK := ?_))) | ((first | refine atF (f := 24) ?_ | refine atQ (f := 24) ?_); (first | (refine cFI (hac := implInvertWord_ok w 101) (hK := ?_)) | (refine cQI (hac := implInvertWord_ok w 101) (hK := ?_)))) | ((first | refine atF (f := 20) ?_ | refine atQ (f := 20) ?_); (first | (refine cFI (hac := implFreeReduceX_ok w 102) (hK := ?_)) | (refine cQI (hac := implFreeReduceX_ok w 102) (hK := ?_)))) | ((first | refine atF (f := 44) ?_ | refine atQ (f := 44) ?_); (first | (refine cFI (hac := implInverseU_ok P hP 103) (hK := ?_)) | (refine cQI (hac := implInverseU_ok P hP 103) (hK := ?_))))); simp (maxSteps := 1000000) (dsimp := false) (implicitDefEqProofs := false) (disch := omega) only [wrap64, go_sem, e0, e1, e2, e3, e4, e5, htd, Nat.sub_zero, Int.toNat_natCast]) | apply_assumption -exfalso -symm)
      all_goals (first | (show endQ _ _ _ _ _ _ _; (repeat (rename (∀ (A : Fr) (H : Hp), AWP _ _ _ _ A H → _) => hK; clear hK)); (repeat (rename (Fr → Hp → Prop) => K; clear K))) | (show Exists _; (repeat (rename (∀ (A : Fr) (H : Hp), AWP _ _ _ _ A H → _) => hK; clear hK)); (repeat (rename (Fr → Hp → Prop) => K; clear K))) | skip)
      exact end_retV' rfl rfl rfl
    · obtain ⟨P, e0, hP0⟩ := evW_none hok
      repeat' (first | refine awp_seqK fun K hK => ?_ | (refine awp_regionK 11258999074717693 rfl ?_; simp only [List.map_cons, List.map_nil]; simp (maxSteps := 1000000) (dsimp := false) (implicitDefEqProofs := false) (disch := omega) only [wrap64, go_sem, e0]) | (refine awp_regionQK 11258999074717693 (by kernel_rfl) (by kernel_rfl) (by kernel_rfl) ?_; simp only [List.map_cons, List.map_nil]; simp (maxSteps := 1000000) (dsimp := false) (implicitDefEqProofs := false) (disch := omega) only [wrap64, go_sem, e0]) | refine awp_block ?_ | (refine awp_skip ?_; simp only [go_sem, e0]) | (refine awp_exit ?_; simp only [go_sem, e0]) | (refine awp_ret ?_; try simp only [go_sem, e0]) | (refine awp_condP rfl ?_; try simp only [go_sem, e0]) | (refine BrP.mk (fun h => ?_) (fun h => ?_) <;> try simp (dsimp := false) (disch := omega) only [wrap64]) | (refine Br.mk (fun h => ?_) (fun h => ?_) <;> try simp (dsimp := false) (disch := omega) only [wrap64]) | refine Ob.mk (by first | omega | (intro _ _; rfl) | trivial | (intros; trivial) | assumption | (intro i hi; have h0 : i = 0 := (by omega); subst h0; first | rfl | trivial) | (intro i hi; have h0 : i = 0 ∨ i = 1 := (by omega); rcases h0 with rfl | rfl <;> rfl) | (intro i hi; have h0 : i = 0 ∨ i = 1 ∨ i = 2 := (by omega); rcases h0 with rfl | rfl | rfl <;> rfl)) ?_ | ((first | ((first | refine atF (f := 41) ?_ | refine atQ (f := 41) ?_); (refine cR (hac := implEvaluateWord_ok n gs w (by omega)) (hK := ?_) (hs := evT_scrub _ _ _))) | ((first | refine atF (f := 42) ?_ | refine atQ (f := 42) ?_); (refine cR (hac := specEvaluateWord_ok n gs w (by omega)) (hK := ?_) (hs := evT_scrub _ _ _))) | ((first | refine atF (f := 21) ?_ | refine atQ (f := 21) ?_); (first | (refine cV (hac := likeInts_ok P P (by omega)) (hK := ?_)) | (refine cQV (hac := likeInts_ok P P (by omega)) (hK := ?_))))); simp (maxSteps := 1000000) (dsimp := false) (implicitDefEqProofs := false) (disch := omega) only [wrap64, go_sem, e0]) | apply_assumption -exfalso -symm)
      all_goals (first | (show endQ _ _ _ _ _ _ _; (repeat (rename (∀ (A : Fr) (H : Hp), AWP _ _ _ _ A H → _) => hK; clear hK)); (repeat (rename (Fr → Hp → Prop) => K; clear K))) | (show Exists _; (repeat (rename (∀ (A : Fr) (H : Hp), AWP _ _ _ _ A H → _) => hK; clear hK)); (repeat (rename (Fr → Hp → Prop) => K; clear K))) | skip)
      exact end_retV' rfl rfl (by simp [hP0])
end Go.Proofs.Ytcfnbahpdlmcpaa
