import Derived.Test.YtphpegemhnodcaaQ14
namespace Go.Proofs.Ytphpegemhnodcaa
open Go.Av
set_option linter.unusedSimpArgs false
set_option linter.unusedVariables false
attribute [local irreducible] AWP CallG Ob Br BrP Go.Av.Sub endQ AOps OpV AC thenA blkA opsVC opVC withA withArgs opsQ opQ CallQ withA2 withArgs2
open Go.Pm (Pm Rch img comp invp orbF clsF clsN partK loR)
theorem evT_scrub (p : Nat → Bool) (a : List Int) (b : Bool) : (AV.tup 2 (vecF [ints a, .v (.bool (b))])).scrub p = .tup 2 (vecF [ints a, .v (.bool (b))]) := by
  simp only [scrub_tup, scF_vecF, List.map_cons, List.map_nil]; rfl
theorem orbP_row (n : Int) (gs : List (List Int)) (j : Nat) : ((orbP n gs).getD j []).length ≤ 20 := by
  by_cases hj : j < (orbP n gs).length
  · have hm : (orbP n gs).getD j [] ∈ orbP n gs := by rw [List.getD_eq_getElem?_getD, List.getElem?_eq_getElem hj]; exact List.getElem_mem hj
    obtain ⟨b, eb⟩ : ∃ b, b = (orbP n gs).getD j [] := ⟨_, rfl⟩
    rw [← eb] at hm ⊢
    unfold orbP at hm
    split at hm
    · rename_i h
      obtain ⟨x, _, _, rfl⟩ := Go.Pm.mem_partK.1 hm
      have := Go.Pm.clsF_len (n := n.toNat) (R := Rch gs) (x := x)
      have := gens_pm h
      omega
    · cases hm
  · rw [List.getD_eq_getElem?_getD, List.getElem?_eq_none (by omega)]; exact Nat.zero_le _
theorem fixP_len (n : Int) (gs : List (List Int)) : (fixP n gs).length ≤ 20 := by
  unfold fixP
  split
  · rename_i h
    have := fixK_len n.toNat gs n.toNat
    have := gens_pm h
    omega
  · exact Nat.zero_le _
/-- What the law asks of the words. -/
theorem orb_word {n : Int} {gs : List (List Int)} {x y : Int} (h : isGens n gs) (hx : 0 ≤ x ∧ x < n) (hy : y ∈ obP n gs x) {ws : List (Option (List Int))} (hw : WP n.toNat gs x.toNat ws) : (0 ≤ y ∧ y ≤ n - 1) ∧ ∃ w, ws.getD y.toNat none = some w ∧ evW n gs w = (evalP n.toNat gs w, true) ∧ (evalP n.toNat gs w).length = n.toNat ∧ (evalP n.toNat gs w).getD x.toNat 0 = y := by
  obtain ⟨h1, h2, h3, h4, e⟩ := gens_P h
  have h5 : obP n gs x = orbF n.toNat gs x.toNat := if_pos ⟨h, by omega, by omega⟩
  rw [h5, Go.Pm.mem_clsF] at hy
  obtain ⟨z, rfl, hz, hr⟩ := hy
  rw [Int.toNat_natCast]
  refine ⟨by omega, ?_⟩
  have hne := (hw.iff z hz).2 hr
  cases hT : ws.getD z none with
  | none => exact absurd hT hne
  | some w =>
    obtain ⟨k1, k2, k3, k4⟩ := hw.wd z w hT
    have hW : isW gs.length w := by
      refine ⟨by omega, fun j hj => ?_⟩
      have hm := k2 (w.getD j 0) (by rw [List.getD_eq_getElem?_getD, List.getElem?_eq_getElem hj]; exact List.getElem_mem hj)
      have := h.2.1
      unfold inL at hm
      unfold isL
      omega
    have hp := evalM_pm h1 k2
    refine ⟨w, rfl, if_pos ⟨h, hW⟩, hp.1, ?_⟩
    rw [hp.get_eq (by omega), k3]
set_option maxHeartbeats 8000000 in
theorem lawOrbits_ok (xs : List Int) (hl : xs.length ≤ 9223372036854775807) (hb : ∀ j, 0 ≤ xs.getD j 0 ∧ xs.getD j 0 ≤ 255) : AC Try.prog 8 [bts xs] Hp.emp (fun _ => false) (retV (.v (.bool (true)))) := by
  refine ac_of_awp (N := ⟨_, fun _ => false, fun _ _ => rfl⟩) Try.func8 rfl (by kernel_rfl) Try.ntmps8 (by simp) ?_
  simp only [argsFr, List.zipIdx_cons, List.zipIdx_nil, go_sem]
  repeat' (first | ((first | refine atF (f := 48) ?_ | refine atQ (f := 48) ?_); (refine callX (drawOrbits_ok xs hb (by omega)) (by rintro _ ⟨v, _, rfl⟩ p; simp only [scrub_tup, scF_vecF, List.map_cons, List.map_nil]; rfl) (fun r hq => ?_); obtain ⟨⟨n, gs⟩, ⟨hn, hgl, _⟩, rfl⟩ := hq) <;> simp (maxSteps := 1000000) (dsimp := false) (implicitDefEqProofs := false) (disch := omega) only [wrap64, go_sem]) | refine awp_seqK fun K hK => ?_ | (refine awp_regionK 1180594013254713393149 rfl ?_; simp only [List.map_cons, List.map_nil]; simp (maxSteps := 1000000) (dsimp := false) (implicitDefEqProofs := false) (disch := omega) only [wrap64, go_sem]) | (refine awp_regionQK 1180594013254713393149 (by kernel_rfl) (by kernel_rfl) (by kernel_rfl) ?_; simp only [List.map_cons, List.map_nil]; simp (maxSteps := 1000000) (dsimp := false) (implicitDefEqProofs := false) (disch := omega) only [wrap64, go_sem]) | refine awp_block ?_ | (refine awp_skip ?_; simp only [go_sem]) | (refine awp_exit ?_; simp only [go_sem]) | (refine awp_ret ?_; try simp only [go_sem]) | (refine awp_condP rfl ?_; try simp only [go_sem]) | (refine BrP.mk (fun h => ?_) (fun h => ?_) <;> try simp (dsimp := false) (disch := omega) only [wrap64]) | (refine Br.mk (fun h => ?_) (fun h => ?_) <;> try simp (dsimp := false) (disch := omega) only [wrap64]) | refine Ob.mk (by first | omega | (intro _ _; rfl) | trivial | (intros; trivial) | assumption | (intro i hi; have h0 : i = 0 := (by omega); subst h0; first | rfl | trivial) | (intro i hi; have h0 : i = 0 ∨ i = 1 := (by omega); rcases h0 with rfl | rfl <;> rfl) | (intro i hi; have h0 : i = 0 ∨ i = 1 ∨ i = 2 := (by omega); rcases h0 with rfl | rfl | rfl <;> rfl)) ?_ | ((first | ((first | refine atF (f := 27) ?_ | refine atQ (f := 27) ?_); (first | (refine cV (hac := big_ok xs) (hK := ?_)) | (refine cQV (hac := big_ok xs) (hK := ?_))))); simp (maxSteps := 1000000) (dsimp := false) (implicitDefEqProofs := false) (disch := omega) only [wrap64, go_sem]) | apply_assumption -exfalso -symm)
  all_goals (first | (show endQ _ _ _ _ _ _ _; (repeat (rename (∀ (A : Fr) (H : Hp), AWP _ _ _ _ A H → _) => hK; clear hK)); (repeat (rename (Fr → Hp → Prop) => K; clear K))) | (show Exists _; (repeat (rename (∀ (A : Fr) (H : Hp), AWP _ _ _ _ A H → _) => hK; clear hK)); (repeat (rename (Fr → Hp → Prop) => K; clear K))) | skip)
  · exact end_retV rfl rfl
  · dsimp only at hn hgl ⊢
    have hn64 : -9223372036854775808 ≤ n ∧ n ≤ 9223372036854775807 := by unfold r64 at hn; omega
    have hol := orbP_len n gs
    have hor := Hold.mk (orbP_row n gs)
    have hlc : (((orbP n gs).length : Int) = 1) = ((orbP n gs).length = 1) := propext (by omega)
    by_cases hok : isGens n gs
    · have hd : decide (isGens n gs) = true := decide_eq_true hok
      obtain ⟨g1, g2, g3, g4, g5⟩ := gens_P hok
      repeat' (first | ((first | refine atF (f := 51) ?_ | refine atQ (f := 51) ?_); (refine callRoll (roll_ok xs 904 hb (by omega)) rfl (fun d0 => ?_)) <;> simp (maxSteps := 1000000) (dsimp := false) (implicitDefEqProofs := false) (disch := omega) only [wrap64, go_sem, hlc, beq_self_eq_true, hd]) | ((first | refine atF (f := 52) ?_ | refine atQ (f := 52) ?_); (refine callD (by rfl) (dBelow_ok _ _ (by omega)) (by rintro _ ⟨v, _, rfl⟩ _; rfl) (fun r d' hq => ?_); obtain ⟨v, hv, rfl⟩ := hq) <;> simp (maxSteps := 1000000) (dsimp := false) (implicitDefEqProofs := false) (disch := omega) only [wrap64, go_sem, hlc, beq_self_eq_true, hd]) | refine awp_seqK fun K hK => ?_ | (refine awp_regionK 1180594013254713393149 rfl ?_; simp only [List.map_cons, List.map_nil]; simp (maxSteps := 1000000) (dsimp := false) (implicitDefEqProofs := false) (disch := omega) only [wrap64, go_sem, hlc, beq_self_eq_true, hd]) | (refine awp_regionQK 1180594013254713393149 (by kernel_rfl) (by kernel_rfl) (by kernel_rfl) ?_; simp only [List.map_cons, List.map_nil]; simp (maxSteps := 1000000) (dsimp := false) (implicitDefEqProofs := false) (disch := omega) only [wrap64, go_sem, hlc, beq_self_eq_true, hd]) | refine awp_block ?_ | (refine awp_skip ?_; simp only [go_sem, hlc, beq_self_eq_true, hd]) | (refine awp_exit ?_; simp only [go_sem, hlc, beq_self_eq_true, hd]) | (refine awp_ret ?_; try simp only [go_sem, hlc, beq_self_eq_true, hd]) | (refine awp_condP rfl ?_; try simp only [go_sem, hlc, beq_self_eq_true, hd]) | (refine BrP.mk (fun h => ?_) (fun h => ?_) <;> try simp (dsimp := false) (disch := omega) only [wrap64]) | (refine Br.mk (fun h => ?_) (fun h => ?_) <;> try simp (dsimp := false) (disch := omega) only [wrap64]) | refine Ob.mk (by first | omega | (intro _ _; rfl) | trivial | (intros; trivial) | assumption | (intro i hi; have h0 : i = 0 := (by omega); subst h0; first | rfl | trivial) | (intro i hi; have h0 : i = 0 ∨ i = 1 := (by omega); rcases h0 with rfl | rfl <;> rfl) | (intro i hi; have h0 : i = 0 ∨ i = 1 ∨ i = 2 := (by omega); rcases h0 with rfl | rfl | rfl <;> rfl)) ?_ | ((first | ((first | refine atF (f := 46) ?_ | refine atQ (f := 46) ?_); (first | (refine cR (hac := implOrbits_ok n gs) (hK := ?_)) | (refine cQR (hac := implOrbits_ok n gs) (hK := ?_)))) | ((first | refine atF (f := 47) ?_ | refine atQ (f := 47) ?_); (first | (refine cR (hac := specOrbits_ok n gs (by omega)) (hK := ?_)) | (refine cQR (hac := specOrbits_ok n gs (by omega)) (hK := ?_)))) | ((first | refine atF (f := 43) ?_ | refine atQ (f := 43) ?_); (first | (refine cV (hac := likeLists_ok (orbP n gs) (orbP n gs) (by omega) (fun j => by have := hor.h j; omega)) (hK := ?_)) | (refine cQV (hac := likeLists_ok (orbP n gs) (orbP n gs) (by omega) (fun j => by have := hor.h j; omega)) (hK := ?_)))) | ((first | refine atF (f := 49) ?_ | refine atQ (f := 49) ?_); (first | (refine cV (hac := implIsGeneratorSet_ok n gs) (hK := ?_)) | (refine cQV (hac := implIsGeneratorSet_ok n gs) (hK := ?_)))) | ((first | refine atF (f := 45) ?_ | refine atQ (f := 45) ?_); (first | (refine cV (hac := specIsGeneratorSet_ok n gs) (hK := ?_)) | (refine cQV (hac := specIsGeneratorSet_ok n gs) (hK := ?_)))) | ((first | refine atF (f := 50) ?_ | refine atQ (f := 50) ?_); (first | (refine cV (hac := implIsTransitive_ok n gs) (hK := ?_)) | (refine cQV (hac := implIsTransitive_ok n gs) (hK := ?_))))); simp (maxSteps := 1000000) (dsimp := false) (implicitDefEqProofs := false) (disch := omega) only [wrap64, go_sem, hlc, beq_self_eq_true, hd]) | apply_assumption -exfalso -symm)
      all_goals (first | (show endQ _ _ _ _ _ _ _; (repeat (rename (∀ (A : Fr) (H : Hp), AWP _ _ _ _ A H → _) => hK; clear hK)); (repeat (rename (Fr → Hp → Prop) => K; clear K))) | (show Exists _; (repeat (rename (∀ (A : Fr) (H : Hp), AWP _ _ _ _ A H → _) => hK; clear hK)); (repeat (rename (Fr → Hp → Prop) => K; clear K))) | skip)
      have hob : obP n gs v = orbF n.toNat gs v.toNat := if_pos ⟨hok, by omega, by omega⟩
      have hobl : (obP n gs v).length ≤ 20 := by
        have : (orbF n.toNat gs v.toNat).length ≤ n.toNat := Go.Pm.clsF_len
        rw [hob]; omega
      have hob0 : 0 < (obP n gs v).length := by
        rw [hob]
        have : (v.toNat : Int) ∈ orbF n.toNat gs v.toNat := Go.Pm.mem_clsF.2 ⟨v.toNat, rfl, by omega, .refl⟩
        exact List.length_pos_of_mem this
      repeat' (first | ((first | refine atF (f := 52) ?_ | refine atQ (f := 52) ?_); (refine callD (by rfl) (dBelow_ok _ _ (by omega)) (by rintro _ ⟨v, _, rfl⟩ _; rfl) (fun r d' hq => ?_); obtain ⟨j, hj, rfl⟩ := hq) <;> simp (maxSteps := 1000000) (dsimp := false) (implicitDefEqProofs := false) (disch := omega) only [wrap64, go_sem]) | refine awp_seqK fun K hK => ?_ | (refine awp_regionK 1180594013254713393149 rfl ?_; simp only [List.map_cons, List.map_nil]; simp (maxSteps := 1000000) (dsimp := false) (implicitDefEqProofs := false) (disch := omega) only [wrap64, go_sem]) | (refine awp_regionQK 1180594013254713393149 (by kernel_rfl) (by kernel_rfl) (by kernel_rfl) ?_; simp only [List.map_cons, List.map_nil]; simp (maxSteps := 1000000) (dsimp := false) (implicitDefEqProofs := false) (disch := omega) only [wrap64, go_sem]) | refine awp_block ?_ | (refine awp_skip ?_; simp only [go_sem]) | (refine awp_exit ?_; simp only [go_sem]) | (refine awp_ret ?_; try simp only [go_sem]) | (refine awp_condP rfl ?_; try simp only [go_sem]) | (refine BrP.mk (fun h => ?_) (fun h => ?_) <;> try simp (dsimp := false) (disch := omega) only [wrap64]) | (refine Br.mk (fun h => ?_) (fun h => ?_) <;> try simp (dsimp := false) (disch := omega) only [wrap64]) | refine Ob.mk (by first | omega | (intro _ _; rfl) | trivial | (intros; trivial) | assumption | (intro i hi; have h0 : i = 0 := (by omega); subst h0; first | rfl | trivial) | (intro i hi; have h0 : i = 0 ∨ i = 1 := (by omega); rcases h0 with rfl | rfl <;> rfl) | (intro i hi; have h0 : i = 0 ∨ i = 1 ∨ i = 2 := (by omega); rcases h0 with rfl | rfl | rfl <;> rfl)) ?_ | ((first | ((first | refine atF (f := 53) ?_ | refine atQ (f := 53) ?_); (first | (refine cFI (hac := implOrbitP_ok n gs v 63) (hK := ?_)) | (refine cQI (hac := implOrbitP_ok n gs v 63) (hK := ?_)))) | ((first | refine atF (f := 54) ?_ | refine atQ (f := 54) ?_); (first | (refine cR (hac := specOrbit_ok n gs v (by omega)) (hK := ?_)) | (refine cQR (hac := specOrbit_ok n gs v (by omega)) (hK := ?_)))) | ((first | refine atF (f := 31) ?_ | refine atQ (f := 31) ?_); (first | (refine cV (hac := likeInts_ok (obP n gs v) (obP n gs v) (by omega)) (hK := ?_)) | (refine cQV (hac := likeInts_ok (obP n gs v) (obP n gs v) (by omega)) (hK := ?_))))); simp (maxSteps := 1000000) (dsimp := false) (implicitDefEqProofs := false) (disch := omega) only [wrap64, go_sem]) | apply_assumption -exfalso -symm)
      all_goals (first | (show endQ _ _ _ _ _ _ _; (repeat (rename (∀ (A : Fr) (H : Hp), AWP _ _ _ _ A H → _) => hK; clear hK)); (repeat (rename (Fr → Hp → Prop) => K; clear K))) | (show Exists _; (repeat (rename (∀ (A : Fr) (H : Hp), AWP _ _ _ _ A H → _) => hK; clear hK)); (repeat (rename (Fr → Hp → Prop) => K; clear K))) | skip)
      obtain ⟨y, ey⟩ : ∃ y, y = (obP n gs v).getD j.toNat 0 := ⟨_, rfl⟩
      have hy : y ∈ obP n gs v := by
        have hjl : j.toNat < (obP n gs v).length := by omega
        rw [ey, List.getD_eq_getElem?_getD, List.getElem?_eq_getElem hjl]; exact List.getElem_mem hjl
      have hyb : 0 ≤ y ∧ y ≤ n - 1 := by
        rw [hob, Go.Pm.mem_clsF] at hy
        obtain ⟨z, rfl, hz, _⟩ := hy
        omega
      have hqW : ∀ r : AV, (∃ ws, WP n.toNat gs v.toNat ws ∧ ((∃ w, ws.getD y.toNat none = some w ∧ r = .tup 2 (vecF [ints w, .v (.bool (true))])) ∨ (ws.getD y.toNat none = none ∧ r = .tup 2 (vecF [ints [], .v (.bool (false))])))) → ∃ w P, r = .tup 2 (vecF [ints w, .v (.bool (true))]) ∧ evW n gs w = (P, true) ∧ P.length = n.toNat ∧ P.getD v.toNat 0 = y := fun r hq => by
        obtain ⟨ws, hw, hq⟩ := hq
        obtain ⟨_, w, k1, k2, k3, k4⟩ := orb_word hok (by omega) hy hw
        rcases hq with ⟨w', e1, e2⟩ | ⟨e1, _⟩
        · rw [k1] at e1
          simp only [Option.some.injEq] at e1
          subst e1
          exact ⟨w, _, e2, k2, k3, k4⟩
        · rw [k1] at e1; cases e1
      have hqW := Hold.mk hqW
      rw [← ey]
      clear hy
      repeat' (first | ((first | refine atF (f := 55) ?_ | refine atQ (f := 55) ?_); (refine callX (implShortest_ok n gs v y hok (by omega) hyb) (by rintro _ ⟨ws, _, ⟨w, _, rfl⟩ | ⟨_, rfl⟩⟩ p <;> exact evT_scrub _ _ _) (fun r hq => ?_); obtain ⟨w, P, rfl, ew, hPl, hPy⟩ := hqW.h r hq) <;> simp (maxSteps := 1000000) (dsimp := false) (implicitDefEqProofs := false) (disch := omega) only [wrap64, go_sem]) | refine awp_seqK fun K hK => ?_ | (refine awp_regionK 1180594013254713393149 rfl ?_; simp only [List.map_cons, List.map_nil]; simp (maxSteps := 1000000) (dsimp := false) (implicitDefEqProofs := false) (disch := omega) only [wrap64, go_sem]) | (refine awp_regionQK 1180594013254713393149 (by kernel_rfl) (by kernel_rfl) (by kernel_rfl) ?_; simp only [List.map_cons, List.map_nil]; simp (maxSteps := 1000000) (dsimp := false) (implicitDefEqProofs := false) (disch := omega) only [wrap64, go_sem]) | refine awp_block ?_ | (refine awp_skip ?_; simp only [go_sem]) | (refine awp_exit ?_; simp only [go_sem]) | (refine awp_ret ?_; try simp only [go_sem]) | (refine awp_condP rfl ?_; try simp only [go_sem]) | (refine BrP.mk (fun h => ?_) (fun h => ?_) <;> try simp (dsimp := false) (disch := omega) only [wrap64]) | (refine Br.mk (fun h => ?_) (fun h => ?_) <;> try simp (dsimp := false) (disch := omega) only [wrap64]) | refine Ob.mk (by first | omega | (intro _ _; rfl) | trivial | (intros; trivial) | assumption | (intro i hi; have h0 : i = 0 := (by omega); subst h0; first | rfl | trivial) | (intro i hi; have h0 : i = 0 ∨ i = 1 := (by omega); rcases h0 with rfl | rfl <;> rfl) | (intro i hi; have h0 : i = 0 ∨ i = 1 ∨ i = 2 := (by omega); rcases h0 with rfl | rfl | rfl <;> rfl)) ?_ | apply_assumption -exfalso -symm)
      all_goals (first | (show endQ _ _ _ _ _ _ _; (repeat (rename (∀ (A : Fr) (H : Hp), AWP _ _ _ _ A H → _) => hK; clear hK)); (repeat (rename (Fr → Hp → Prop) => K; clear K))) | (show Exists _; (repeat (rename (∀ (A : Fr) (H : Hp), AWP _ _ _ _ A H → _) => hK; clear hK)); (repeat (rename (Fr → Hp → Prop) => K; clear K))) | skip)
      have hfl : (fixP n gs).length ≤ 20 := fixP_len n gs
      repeat' (first | refine awp_seqK fun K hK => ?_ | (refine awp_regionK 1180594013254713393149 rfl ?_; simp only [List.map_cons, List.map_nil]; simp (maxSteps := 1000000) (dsimp := false) (implicitDefEqProofs := false) (disch := omega) only [wrap64, go_sem, ew, hPy, hPl]) | (refine awp_regionQK 1180594013254713393149 (by kernel_rfl) (by kernel_rfl) (by kernel_rfl) ?_; simp only [List.map_cons, List.map_nil]; simp (maxSteps := 1000000) (dsimp := false) (implicitDefEqProofs := false) (disch := omega) only [wrap64, go_sem, ew, hPy, hPl]) | refine awp_block ?_ | (refine awp_skip ?_; simp only [go_sem, ew, hPy, hPl]) | (refine awp_exit ?_; simp only [go_sem, ew, hPy, hPl]) | (refine awp_ret ?_; try simp only [go_sem, ew, hPy, hPl]) | (refine awp_condP rfl ?_; try simp only [go_sem, ew, hPy, hPl]) | (refine BrP.mk (fun h => ?_) (fun h => ?_) <;> try simp (dsimp := false) (disch := omega) only [wrap64]) | (refine Br.mk (fun h => ?_) (fun h => ?_) <;> try simp (dsimp := false) (disch := omega) only [wrap64]) | refine Ob.mk (by first | omega | (intro _ _; rfl) | trivial | (intros; trivial) | assumption | (intro i hi; have h0 : i = 0 := (by omega); subst h0; first | rfl | trivial) | (intro i hi; have h0 : i = 0 ∨ i = 1 := (by omega); rcases h0 with rfl | rfl <;> rfl) | (intro i hi; have h0 : i = 0 ∨ i = 1 ∨ i = 2 := (by omega); rcases h0 with rfl | rfl | rfl <;> rfl)) ?_ | ((first | ((first | refine atF (f := 56) ?_ | refine atQ (f := 56) ?_); (refine cR (hac := specEvaluateWord_ok n gs w (by omega)) (hK := ?_) (hs := evT_scrub _ _ _))) | ((first | refine atF (f := 57) ?_ | refine atQ (f := 57) ?_); (first | (refine cFI (hac := implFixedPoints_ok n gs 108) (hK := ?_)) | (refine cQI (hac := implFixedPoints_ok n gs 108) (hK := ?_)))) | ((first | refine atF (f := 58) ?_ | refine atQ (f := 58) ?_); (first | (refine cFI (hac := specFixedPoints_ok n gs (by omega) hn64 111) (hK := ?_)) | (refine cQI (hac := specFixedPoints_ok n gs (by omega) hn64 111) (hK := ?_)))) | ((first | refine atF (f := 31) ?_ | refine atQ (f := 31) ?_); (first | (refine cV (hac := likeInts_ok (fixP n gs) (fixP n gs) (by omega)) (hK := ?_)) | (refine cQV (hac := likeInts_ok (fixP n gs) (fixP n gs) (by omega)) (hK := ?_))))); simp (maxSteps := 1000000) (dsimp := false) (implicitDefEqProofs := false) (disch := omega) only [wrap64, go_sem, ew, hPy, hPl]) | apply_assumption -exfalso -symm)
      all_goals (first | (show endQ _ _ _ _ _ _ _; (repeat (rename (∀ (A : Fr) (H : Hp), AWP _ _ _ _ A H → _) => hK; clear hK)); (repeat (rename (Fr → Hp → Prop) => K; clear K))) | (show Exists _; (repeat (rename (∀ (A : Fr) (H : Hp), AWP _ _ _ _ A H → _) => hK; clear hK)); (repeat (rename (Fr → Hp → Prop) => K; clear K))) | skip)
      exact end_retV' rfl rfl (by simp)
    · have hd : decide (isGens n gs) = false := decide_eq_false hok
      have h0 : (orbP n gs).length = 0 := by rw [show orbP n gs = [] from if_neg hok]; rfl
      repeat' (first | (show False; omega) | refine awp_seqK fun K hK => ?_ | (refine awp_regionK 1180594013254713393149 rfl ?_; simp only [List.map_cons, List.map_nil]; simp (maxSteps := 1000000) (dsimp := false) (implicitDefEqProofs := false) (disch := omega) only [wrap64, go_sem, hlc, beq_self_eq_true, hd]) | (refine awp_regionQK 1180594013254713393149 (by kernel_rfl) (by kernel_rfl) (by kernel_rfl) ?_; simp only [List.map_cons, List.map_nil]; simp (maxSteps := 1000000) (dsimp := false) (implicitDefEqProofs := false) (disch := omega) only [wrap64, go_sem, hlc, beq_self_eq_true, hd]) | refine awp_block ?_ | (refine awp_skip ?_; simp only [go_sem, hlc, beq_self_eq_true, hd]) | (refine awp_exit ?_; simp only [go_sem, hlc, beq_self_eq_true, hd]) | (refine awp_ret ?_; try simp only [go_sem, hlc, beq_self_eq_true, hd]) | (refine awp_condP rfl ?_; try simp only [go_sem, hlc, beq_self_eq_true, hd]) | (refine BrP.mk (fun h => ?_) (fun h => ?_) <;> try simp (dsimp := false) (disch := omega) only [wrap64]) | (refine Br.mk (fun h => ?_) (fun h => ?_) <;> try simp (dsimp := false) (disch := omega) only [wrap64]) | refine Ob.mk (by first | omega | (intro _ _; rfl) | trivial | (intros; trivial) | assumption | (intro i hi; have h0 : i = 0 := (by omega); subst h0; first | rfl | trivial) | (intro i hi; have h0 : i = 0 ∨ i = 1 := (by omega); rcases h0 with rfl | rfl <;> rfl) | (intro i hi; have h0 : i = 0 ∨ i = 1 ∨ i = 2 := (by omega); rcases h0 with rfl | rfl | rfl <;> rfl)) ?_ | ((first | ((first | refine atF (f := 46) ?_ | refine atQ (f := 46) ?_); (first | (refine cR (hac := implOrbits_ok n gs) (hK := ?_)) | (refine cQR (hac := implOrbits_ok n gs) (hK := ?_)))) | ((first | refine atF (f := 47) ?_ | refine atQ (f := 47) ?_); (first | (refine cR (hac := specOrbits_ok n gs (by omega)) (hK := ?_)) | (refine cQR (hac := specOrbits_ok n gs (by omega)) (hK := ?_)))) | ((first | refine atF (f := 43) ?_ | refine atQ (f := 43) ?_); (first | (refine cV (hac := likeLists_ok (orbP n gs) (orbP n gs) (by omega) (fun j => by have := hor.h j; omega)) (hK := ?_)) | (refine cQV (hac := likeLists_ok (orbP n gs) (orbP n gs) (by omega) (fun j => by have := hor.h j; omega)) (hK := ?_)))) | ((first | refine atF (f := 49) ?_ | refine atQ (f := 49) ?_); (first | (refine cV (hac := implIsGeneratorSet_ok n gs) (hK := ?_)) | (refine cQV (hac := implIsGeneratorSet_ok n gs) (hK := ?_)))) | ((first | refine atF (f := 45) ?_ | refine atQ (f := 45) ?_); (first | (refine cV (hac := specIsGeneratorSet_ok n gs) (hK := ?_)) | (refine cQV (hac := specIsGeneratorSet_ok n gs) (hK := ?_)))) | ((first | refine atF (f := 50) ?_ | refine atQ (f := 50) ?_); (first | (refine cV (hac := implIsTransitive_ok n gs) (hK := ?_)) | (refine cQV (hac := implIsTransitive_ok n gs) (hK := ?_))))); simp (maxSteps := 1000000) (dsimp := false) (implicitDefEqProofs := false) (disch := omega) only [wrap64, go_sem, hlc, beq_self_eq_true, hd]) | apply_assumption -exfalso -symm)
      all_goals (first | (show endQ _ _ _ _ _ _ _; (repeat (rename (∀ (A : Fr) (H : Hp), AWP _ _ _ _ A H → _) => hK; clear hK)); (repeat (rename (Fr → Hp → Prop) => K; clear K))) | (show Exists _; (repeat (rename (∀ (A : Fr) (H : Hp), AWP _ _ _ _ A H → _) => hK; clear hK)); (repeat (rename (Fr → Hp → Prop) => K; clear K))) | skip)
      all_goals exact end_retV' rfl rfl (by rw [h0]; rfl)
end Go.Proofs.Ytphpegemhnodcaa
