import Derived.Test.YticbabpajligbaaDoorI26
import Derived.Test.YticbabpajligbaaDoorI4
namespace Go.Proofs.YticbabpajligbaaDoor
open Go.Av
set_option linter.unusedSimpArgs false
set_option linter.unusedVariables false
attribute [local irreducible] AWP CallG Ob Br BrP Go.Av.Sub endQ AOps OpV AC thenA blkA opsVC opVC withA withArgs opsQ opQ CallQ withA2 withArgs2
set_option maxHeartbeats 2000000 in
theorem lawFormatWord_ok (names : ByteArray) (w : List Int) (hs : names.size ≤ 9223372036854775807) (hw : w.length ≤ 9223372036854775807) : AC Tryd.prog 3 [.v (.string (names)), ints w] Hp.emp (fun _ => false) (retV (.v (.bool (true)))) := by
  have hP := Hold.mk (fun (a : names.size ≤ 1048576) (b : w.length ≤ 1048576) => And.intro (specFormatWord_ok names w a b) (implFormatWord_ok names w a b))
  refine ac_of_awp (N := ⟨_, fun _ => false, fun _ _ => rfl, true⟩) Tryd.func3 rfl (by kernel_rfl) Tryd.ntmps3 (by simp) ?_
  simp only [argsFr, List.zipIdx_cons, List.zipIdx_nil, go_sem]
  repeat' (first | refine awp_seqK fun K hK => ?_ | (refine awp_regionK 1107305715 rfl ?_; simp only [List.map_cons, List.map_nil]; simp (maxSteps := 1000000) (dsimp := false) (implicitDefEqProofs := false) (disch := omega) only [wrap64, go_sem]) | (refine awp_regionQK 1107305715 (by kernel_rfl) (by kernel_rfl) (by kernel_rfl) ?_; simp only [List.map_cons, List.map_nil]; simp (maxSteps := 1000000) (dsimp := false) (implicitDefEqProofs := false) (disch := omega) only [wrap64, go_sem]) | refine awp_block ?_ | (refine awp_skip ?_; simp only [go_sem]) | (refine awp_exit ?_; simp only [go_sem]) | (refine awp_ret ?_; try simp only [go_sem]) | (refine awp_condP rfl ?_; try simp only [go_sem]) | (refine BrP.mk (fun h => ?_) (fun h => ?_) <;> try simp (dsimp := false) (disch := omega) only [wrap64]) | (refine Br.mk (fun h => ?_) (fun h => ?_) <;> try simp (dsimp := false) (disch := omega) only [wrap64]) | refine Ob.mk (by first | omega | (intro _ _; rfl) | trivial | (intros; trivial) | assumption | (intro i hi; have h0 : i = 0 := (by omega); subst h0; first | rfl | trivial) | (intro i hi; have h0 : i = 0 ∨ i = 1 := (by omega); rcases h0 with rfl | rfl <;> rfl) | (intro i hi; have h0 : i = 0 ∨ i = 1 ∨ i = 2 := (by omega); rcases h0 with rfl | rfl | rfl <;> rfl)) ?_ | apply_assumption -exfalso -symm)
  all_goals (first | (show endQ _ _ _ _ _ _ _; (repeat (rename (∀ (A : Fr) (H : Hp), AWP _ _ _ _ A H → _) => hK; clear hK)); (repeat (rename (Fr → Hp → Prop) => K; clear K))) | (show Exists _; (repeat (rename (∀ (A : Fr) (H : Hp), AWP _ _ _ _ A H → _) => hK; clear hK)); (repeat (rename (Fr → Hp → Prop) => K; clear K))) | skip)
  · exact end_retV rfl rfl
  · exact end_retV rfl rfl
  obtain ⟨hA, hB⟩ := hP.h (by omega) (by omega)
  have hA := Hold.mk hA
  have hB := Hold.mk hB
  obtain ⟨T, eT⟩ : ∃ T, T = fwP names w := ⟨_, rfl⟩
  rw [← eT] at hA hB
  have he := eqInt64S_ok w w (by omega)
  rw [decide_eq_true rfl] at he
  have he := Hold.mk he
  clear hP
  repeat' (first | refine awp_seqK fun K hK => ?_ | (refine awp_regionK 1107305715 rfl ?_; simp only [List.map_cons, List.map_nil]; simp (maxSteps := 1000000) (dsimp := false) (implicitDefEqProofs := false) (disch := omega) only [wrap64, go_sem]) | (refine awp_regionQK 1107305715 (by kernel_rfl) (by kernel_rfl) (by kernel_rfl) ?_; simp only [List.map_cons, List.map_nil]; simp (maxSteps := 1000000) (dsimp := false) (implicitDefEqProofs := false) (disch := omega) only [wrap64, go_sem]) | refine awp_block ?_ | (refine awp_skip ?_; simp only [go_sem]) | (refine awp_exit ?_; simp only [go_sem]) | (refine awp_ret ?_; try simp only [go_sem]) | (refine awp_condP rfl ?_; try simp only [go_sem]) | (refine BrP.mk (fun h => ?_) (fun h => ?_) <;> try simp (dsimp := false) (disch := omega) only [wrap64]) | (refine Br.mk (fun h => ?_) (fun h => ?_) <;> try simp (dsimp := false) (disch := omega) only [wrap64]) | refine Ob.mk (by first | omega | (intro _ _; rfl) | trivial | (intros; trivial) | assumption | (intro i hi; have h0 : i = 0 := (by omega); subst h0; first | rfl | trivial) | (intro i hi; have h0 : i = 0 ∨ i = 1 := (by omega); rcases h0 with rfl | rfl <;> rfl) | (intro i hi; have h0 : i = 0 ∨ i = 1 ∨ i = 2 := (by omega); rcases h0 with rfl | rfl | rfl <;> rfl)) ?_ | ((first | ((first | refine atF (f := 9) ?_ | refine atQ (f := 9) ?_); (first | (refine cR (hac := toInt64S_frz w (by omega)) (hK := ?_)) | (refine cQR (hac := toInt64S_frz w (by omega)) (hK := ?_)))) | ((first | refine atF (f := 8) ?_ | refine atQ (f := 8) ?_); (refine cV (hfit := .cons (.refl _) (.cons (.refl _) .nil)) (hac := hA.h) (hK := ?_))) | ((first | refine atF (f := 10) ?_ | refine atQ (f := 10) ?_); (refine cV (hfit := .cons (.refl _) (.cons (.refl _) .nil)) (hac := hB.h) (hK := ?_))) | ((first | refine atF (f := 11) ?_ | refine atQ (f := 11) ?_); (refine cV (hfit := .cons (.refl _) (.cons (.refl _) .nil)) (hac := he.h) (hK := ?_)))); simp (maxSteps := 1000000) (dsimp := false) (implicitDefEqProofs := false) (disch := omega) only [wrap64, go_sem]) | apply_assumption -exfalso -symm)
  all_goals (first | (show endQ _ _ _ _ _ _ _; (repeat (rename (∀ (A : Fr) (H : Hp), AWP _ _ _ _ A H → _) => hK; clear hK)); (repeat (rename (Fr → Hp → Prop) => K; clear K))) | (show Exists _; (repeat (rename (∀ (A : Fr) (H : Hp), AWP _ _ _ _ A H → _) => hK; clear hK)); (repeat (rename (Fr → Hp → Prop) => K; clear K))) | skip)
  all_goals (first | exact end_retV rfl rfl)
end Go.Proofs.YticbabpajligbaaDoor
