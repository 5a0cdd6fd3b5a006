import Derived.Test.YtphpegemhnodcaaT96
/- ExpandNotation, both texts. -/
namespace Go.Proofs.Ytphpegemhnodcaa
open Go.Av
set_option linter.unusedSimpArgs false
set_option linter.unusedVariables false
attribute [local irreducible] AWP CallG Ob Br BrP Go.Av.Sub endQ AOps OpV AC thenA blkA opsVC opVC withA withArgs opsQ opQ CallQ withA2 withArgs2
open Go.Nt (Nd nd0 kd ndOk sz isNt ex ndW bas tab)
/-- What ExpandNotation answers. -/
def expaP (xs : List Nd) : List Int × Bool := if isNt 8 xs then exP xs (xs.length - 1) else ([], false)
theorem expa_tab {xs : List Nd} (h : isNt 8 xs) : ((tabP xs).2 = true → exP xs (xs.length - 1) = ((tabP xs).1.getD (xs.length - 1) [], true) ∧ (tabP xs).1.length = xs.length) ∧ (¬ (tabP xs).2 = true → exP xs (xs.length - 1) = ([], false)) := by
  have e := Go.Nt.tab_ex (by have := h.2.1; omega) h.2.2.2
  have hk := Go.Nt.tab_ok (Go.Nt.kidsB_of h.2.2.2) xs.length (Nat.le_refl _)
  unfold tabP exP
  rw [e]
  cases e2 : tab xs xs.length with
  | none => exact ⟨fun h2 => Bool.noConfusion h2, fun _ => rfl⟩
  | some out =>
    rw [e2] at hk
    exact ⟨fun _ => ⟨rfl, hk.1⟩, fun h2 => absurd rfl h2⟩
theorem implExpandNotation_ok (xs : List Nd) (hx : xs.length ≤ 1048576) (hb : ∀ j, (kd xs j).length ≤ 1048576) (d : Nat) : AC Try.prog 16 [nds xs] Hp.emp (fun _ => false) (retIB d (expaP xs).1 (expaP xs).2) := by
  have hn : isNt 8 xs → ((xs.length : Int) - 1) = ((xs.length - 1 : Nat) : Int) ∧ xs.length - 1 < xs.length := fun h => by have := h.2.1; omega
  have hE : isNt 8 xs → AC Try.prog 90 [nds xs, .v (.int .i64 ((xs.length : Int) - 1))] Hp.emp (fun _ => false) (retIB 40 (exP xs (xs.length - 1)).1 (exP xs (xs.length - 1)).2) := fun h => by
    rw [(hn h).1]
    exact implExpand_ok xs h _ (hn h).2 40
  refine ac_of_awp (N := ⟨_, fun _ => false, fun _ _ => rfl⟩) Try.func16 rfl (by kernel_rfl) Try.ntmps16 (by simp) ?_
  simp only [argsFr, List.zipIdx_cons, List.zipIdx_nil, go_sem]
  repeat' (first | refine awp_seqK fun K hK => ?_ | (refine awp_regionK 77 rfl ?_; simp only [List.map_cons, List.map_nil]; simp (maxSteps := 1000000) (dsimp := false) (implicitDefEqProofs := false) (disch := omega) only [wrap64, go_sem]) | (refine awp_regionQK 77 (by kernel_rfl) (by kernel_rfl) (by kernel_rfl) ?_; simp only [List.map_cons, List.map_nil]; simp (maxSteps := 1000000) (dsimp := false) (implicitDefEqProofs := false) (disch := omega) only [wrap64, go_sem]) | refine awp_block ?_ | (refine awp_skip ?_; simp only [go_sem]) | (refine awp_exit ?_; simp only [go_sem]) | (refine awp_ret ?_; try simp only [go_sem]) | (refine awp_condP rfl ?_; try simp only [go_sem]) | (refine BrP.mk (fun h => ?_) (fun h => ?_) <;> try simp (dsimp := false) (disch := omega) only [wrap64]) | (refine Br.mk (fun h => ?_) (fun h => ?_) <;> try simp (dsimp := false) (disch := omega) only [wrap64]) | refine Ob.mk (by first | omega | (intro _ _; rfl) | trivial | (intros; trivial) | assumption | (intro i hi; have h0 : i = 0 := (by omega); subst h0; first | rfl | trivial) | (intro i hi; have h0 : i = 0 ∨ i = 1 := (by omega); rcases h0 with rfl | rfl <;> rfl) | (intro i hi; have h0 : i = 0 ∨ i = 1 ∨ i = 2 := (by omega); rcases h0 with rfl | rfl | rfl <;> rfl)) ?_ | ((first | ((first | refine atF (f := 89) ?_ | refine atQ (f := 89) ?_); (first | (refine cV (hac := implIsValidNt_ok 8 xs hx hb) (hK := ?_)) | (refine cQV (hac := implIsValidNt_ok 8 xs hx hb) (hK := ?_)))) | ((first | refine atF (f := 91) ?_ | refine atQ (f := 91) ?_); (first | (refine cV (hac := lenNd_ok xs) (hK := ?_)) | (refine cQV (hac := lenNd_ok xs) (hK := ?_)))) | ((first | refine atF (f := 90) ?_ | refine atQ (f := 90) ?_); (refine cIB (hac := hE (by assumption)) (hK := ?_)))); simp (maxSteps := 1000000) (dsimp := false) (implicitDefEqProofs := false) (disch := omega) only [wrap64, go_sem]) | apply_assumption -exfalso -symm)
  all_goals (first | (show endQ _ _ _ _ _ _ _; (repeat (rename (∀ (A : Fr) (H : Hp), AWP _ _ _ _ A H → _) => hK; clear hK)); (repeat (rename (Fr → Hp → Prop) => K; clear K))) | (show Exists _; (repeat (rename (∀ (A : Fr) (H : Hp), AWP _ _ _ _ A H → _) => hK; clear hK)); (repeat (rename (Fr → Hp → Prop) => K; clear K))) | skip)
  all_goals
    (first | refine end_retIB' rfl rfl rfl rfl ?_ (by decide) rfl rfl | refine end_retIB_nil' rfl rfl rfl ?_ (by decide) rfl)
    unfold expaP
    first
    | (rw [if_pos (by assumption)]; done)
    | (rw [if_neg (by assumption)]; done)
theorem specExpandNotation_ok (xs : List Nd) (hx : xs.length ≤ 1048576) (hb : ∀ j, (kd xs j).length ≤ 1048576) : AC Try.prog 14 [nds xs] Hp.emp (fun _ => false) (retV (.tup 2 (vecF [ints (expaP xs).1, .v (.bool ((expaP xs).2))]))) := by
  by_cases hv : isNt 8 xs
  · have hd : decide (isNt 8 xs) = true := decide_eq_true hv
    have hE := expa_tab hv
    have hX := specExpandNodes_ok xs hv
    have hl := hv.2.1
    have hP : expaP xs = exP xs (xs.length - 1) := if_pos hv
    obtain ⟨out, eo⟩ : ∃ out, out = (tabP xs).1 := ⟨_, rfl⟩
    obtain ⟨b, eb⟩ : ∃ b, b = (tabP xs).2 := ⟨_, rfl⟩
    rw [← eo, ← eb] at hE hX
    cases b with
    | true =>
      obtain ⟨e1, e2⟩ := hE.1 rfl
      have e3 : ((out.length : Int) - 1).toNat = xs.length - 1 := by omega
      refine ac_of_awp (N := ⟨_, fun _ => false, fun _ _ => rfl⟩) Try.func14 rfl (by kernel_rfl) Try.ntmps14 (by simp) ?_
      simp only [argsFr, List.zipIdx_cons, List.zipIdx_nil, go_sem]
      repeat' (first | refine awp_seqK fun K hK => ?_ | (refine awp_regionK 65853 rfl ?_; simp only [List.map_cons, List.map_nil]; simp (maxSteps := 1000000) (dsimp := false) (implicitDefEqProofs := false) (disch := omega) only [wrap64, go_sem, hd, e3]) | (refine awp_regionQK 65853 (by kernel_rfl) (by kernel_rfl) (by kernel_rfl) ?_; simp only [List.map_cons, List.map_nil]; simp (maxSteps := 1000000) (dsimp := false) (implicitDefEqProofs := false) (disch := omega) only [wrap64, go_sem, hd, e3]) | refine awp_block ?_ | (refine awp_skip ?_; simp only [go_sem, hd, e3]) | (refine awp_exit ?_; simp only [go_sem, hd, e3]) | (refine awp_ret ?_; try simp only [go_sem, hd, e3]) | (refine awp_condP rfl ?_; try simp only [go_sem, hd, e3]) | (refine BrP.mk (fun h => ?_) (fun h => ?_) <;> try simp (dsimp := false) (disch := omega) only [wrap64]) | (refine Br.mk (fun h => ?_) (fun h => ?_) <;> try simp (dsimp := false) (disch := omega) only [wrap64]) | refine Ob.mk (by first | omega | (intro _ _; rfl) | trivial | (intros; trivial) | assumption | (intro i hi; have h0 : i = 0 := (by omega); subst h0; first | rfl | trivial) | (intro i hi; have h0 : i = 0 ∨ i = 1 := (by omega); rcases h0 with rfl | rfl <;> rfl) | (intro i hi; have h0 : i = 0 ∨ i = 1 ∨ i = 2 := (by omega); rcases h0 with rfl | rfl | rfl <;> rfl)) ?_ | ((first | ((first | refine atF (f := 86) ?_ | refine atQ (f := 86) ?_); (first | (refine cV (hac := specIsValidNt_ok 8 xs hx hb) (hK := ?_)) | (refine cQV (hac := specIsValidNt_ok 8 xs hx hb) (hK := ?_)))) | ((first | refine atF (f := 87) ?_ | refine atQ (f := 87) ?_); (refine cR (hac := hX) (hK := ?_) (hs := by simp only [scrub_tup, scF_vecF, List.map_cons, List.map_nil]; rfl)))); simp (maxSteps := 1000000) (dsimp := false) (implicitDefEqProofs := false) (disch := omega) only [wrap64, go_sem, hd, e3]) | apply_assumption -exfalso -symm)
      all_goals (first | (show endQ _ _ _ _ _ _ _; (repeat (rename (∀ (A : Fr) (H : Hp), AWP _ _ _ _ A H → _) => hK; clear hK)); (repeat (rename (Fr → Hp → Prop) => K; clear K))) | (show Exists _; (repeat (rename (∀ (A : Fr) (H : Hp), AWP _ _ _ _ A H → _) => hK; clear hK)); (repeat (rename (Fr → Hp → Prop) => K; clear K))) | skip)
      rw [hP, e1]
      exact end_tup2 (H' := Hp.emp) rfl (by decide) (Sub.toFF (fun _ => True) (Fr.fit_cons rfl (.refl _) (Fr.fit_cons rfl (.refl _) (Fr.fit_nil _))) leF_emp) ⟨rfl, rfl⟩
    | false =>
      have e1 := hE.2 (by decide)
      refine ac_of_awp (N := ⟨_, fun _ => false, fun _ _ => rfl⟩) Try.func14 rfl (by kernel_rfl) Try.ntmps14 (by simp) ?_
      simp only [argsFr, List.zipIdx_cons, List.zipIdx_nil, go_sem]
      repeat' (first | refine awp_seqK fun K hK => ?_ | (refine awp_regionK 65853 rfl ?_; simp only [List.map_cons, List.map_nil]; simp (maxSteps := 1000000) (dsimp := false) (implicitDefEqProofs := false) (disch := omega) only [wrap64, go_sem, hd]) | (refine awp_regionQK 65853 (by kernel_rfl) (by kernel_rfl) (by kernel_rfl) ?_; simp only [List.map_cons, List.map_nil]; simp (maxSteps := 1000000) (dsimp := false) (implicitDefEqProofs := false) (disch := omega) only [wrap64, go_sem, hd]) | refine awp_block ?_ | (refine awp_skip ?_; simp only [go_sem, hd]) | (refine awp_exit ?_; simp only [go_sem, hd]) | (refine awp_ret ?_; try simp only [go_sem, hd]) | (refine awp_condP rfl ?_; try simp only [go_sem, hd]) | (refine BrP.mk (fun h => ?_) (fun h => ?_) <;> try simp (dsimp := false) (disch := omega) only [wrap64]) | (refine Br.mk (fun h => ?_) (fun h => ?_) <;> try simp (dsimp := false) (disch := omega) only [wrap64]) | refine Ob.mk (by first | omega | (intro _ _; rfl) | trivial | (intros; trivial) | assumption | (intro i hi; have h0 : i = 0 := (by omega); subst h0; first | rfl | trivial) | (intro i hi; have h0 : i = 0 ∨ i = 1 := (by omega); rcases h0 with rfl | rfl <;> rfl) | (intro i hi; have h0 : i = 0 ∨ i = 1 ∨ i = 2 := (by omega); rcases h0 with rfl | rfl | rfl <;> rfl)) ?_ | ((first | ((first | refine atF (f := 86) ?_ | refine atQ (f := 86) ?_); (first | (refine cV (hac := specIsValidNt_ok 8 xs hx hb) (hK := ?_)) | (refine cQV (hac := specIsValidNt_ok 8 xs hx hb) (hK := ?_)))) | ((first | refine atF (f := 87) ?_ | refine atQ (f := 87) ?_); (refine cR (hac := hX) (hK := ?_) (hs := by simp only [scrub_tup, scF_vecF, List.map_cons, List.map_nil]; rfl)))); simp (maxSteps := 1000000) (dsimp := false) (implicitDefEqProofs := false) (disch := omega) only [wrap64, go_sem, hd]) | apply_assumption -exfalso -symm)
      all_goals (first | (show endQ _ _ _ _ _ _ _; (repeat (rename (∀ (A : Fr) (H : Hp), AWP _ _ _ _ A H → _) => hK; clear hK)); (repeat (rename (Fr → Hp → Prop) => K; clear K))) | (show Exists _; (repeat (rename (∀ (A : Fr) (H : Hp), AWP _ _ _ _ A H → _) => hK; clear hK)); (repeat (rename (Fr → Hp → Prop) => K; clear K))) | skip)
      rw [hP, e1]
      exact end_tup2 (H' := Hp.emp) rfl (by decide) (Sub.toFF (fun _ => True) (Fr.fit_cons rfl (fits_I rfl trivial rfl rfl) (Fr.fit_cons rfl (.refl _) (Fr.fit_nil _))) leF_emp) ⟨rfl, rfl⟩
  · have hd : decide (isNt 8 xs) = false := decide_eq_false hv
    refine ac_of_awp (N := ⟨_, fun _ => false, fun _ _ => rfl⟩) Try.func14 rfl (by kernel_rfl) Try.ntmps14 (by simp) ?_
    simp only [argsFr, List.zipIdx_cons, List.zipIdx_nil, go_sem]
    repeat' (first | refine awp_seqK fun K hK => ?_ | (refine awp_regionK 65853 rfl ?_; simp only [List.map_cons, List.map_nil]; simp (maxSteps := 1000000) (dsimp := false) (implicitDefEqProofs := false) (disch := omega) only [wrap64, go_sem, hd]) | (refine awp_regionQK 65853 (by kernel_rfl) (by kernel_rfl) (by kernel_rfl) ?_; simp only [List.map_cons, List.map_nil]; simp (maxSteps := 1000000) (dsimp := false) (implicitDefEqProofs := false) (disch := omega) only [wrap64, go_sem, hd]) | refine awp_block ?_ | (refine awp_skip ?_; simp only [go_sem, hd]) | (refine awp_exit ?_; simp only [go_sem, hd]) | (refine awp_ret ?_; try simp only [go_sem, hd]) | (refine awp_condP rfl ?_; try simp only [go_sem, hd]) | (refine BrP.mk (fun h => ?_) (fun h => ?_) <;> try simp (dsimp := false) (disch := omega) only [wrap64]) | (refine Br.mk (fun h => ?_) (fun h => ?_) <;> try simp (dsimp := false) (disch := omega) only [wrap64]) | refine Ob.mk (by first | omega | (intro _ _; rfl) | trivial | (intros; trivial) | assumption | (intro i hi; have h0 : i = 0 := (by omega); subst h0; first | rfl | trivial) | (intro i hi; have h0 : i = 0 ∨ i = 1 := (by omega); rcases h0 with rfl | rfl <;> rfl) | (intro i hi; have h0 : i = 0 ∨ i = 1 ∨ i = 2 := (by omega); rcases h0 with rfl | rfl | rfl <;> rfl)) ?_ | ((first | ((first | refine atF (f := 86) ?_ | refine atQ (f := 86) ?_); (first | (refine cV (hac := specIsValidNt_ok 8 xs hx hb) (hK := ?_)) | (refine cQV (hac := specIsValidNt_ok 8 xs hx hb) (hK := ?_))))); simp (maxSteps := 1000000) (dsimp := false) (implicitDefEqProofs := false) (disch := omega) only [wrap64, go_sem, hd]) | apply_assumption -exfalso -symm)
    all_goals (first | (show endQ _ _ _ _ _ _ _; (repeat (rename (∀ (A : Fr) (H : Hp), AWP _ _ _ _ A H → _) => hK; clear hK)); (repeat (rename (Fr → Hp → Prop) => K; clear K))) | (show Exists _; (repeat (rename (∀ (A : Fr) (H : Hp), AWP _ _ _ _ A H → _) => hK; clear hK)); (repeat (rename (Fr → Hp → Prop) => K; clear K))) | skip)
    rw [show expaP xs = ([], false) from if_neg hv]
    exact end_tup2 (H' := Hp.emp) rfl (by decide) (Sub.toFF (fun _ => True) (Fr.fit_cons rfl (fits_I rfl trivial rfl rfl) (Fr.fit_cons rfl (.refl _) (Fr.fit_nil _))) leF_emp) ⟨rfl, rfl⟩
end Go.Proofs.Ytphpegemhnodcaa
