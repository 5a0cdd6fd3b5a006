import Derived.Test.YtdllbnchcjgcdaaI9
import Derived.Test.YtdllbnchcjgcdaaI2
section
namespace Go.Proofs.Ytdllbnchcjgcdaa
open Go.Av
set_option linter.unusedSimpArgs false
set_option linter.unusedVariables false
attribute [local irreducible] AWP CallG Ob Br BrP Go.Av.Sub endQ AOps OpV AC thenA blkA opsVC opVC withA withArgs opsQ opQ CallQ withA2 withArgs2

theorem fill_step (xs : List Int) (k : Nat) (h : k < xs.length) : (xs.take k ++ List.replicate (xs.length - k) 0).set k (xs.getD k 0) = xs.take (k + 1) ++ List.replicate (xs.length - (k + 1)) 0 := by
  have e : xs.getD k 0 = xs[k] := by simp [h]
  rw [e, List.set_append_right _ _ (by simp; omega), List.take_succ_eq_append_getElem h]
  simp only [List.length_take, Nat.min_eq_left (Nat.le_of_lt h), Nat.sub_self, List.append_assoc]
  rw [show xs.length - k = (xs.length - (k + 1)) + 1 by omega, List.replicate_succ, List.set_cons_zero]
  rfl

set_option maxHeartbeats 400000 in
theorem toInt64S_ok (xs : List Int) (hx : xs.length ≤ 1048576) (d : Nat) : AC Try.prog 26 [ints xs] Hp.emp (fun _ => false) (retI d xs) := by
  refine ac_of_awp (N := ⟨_, fun _ => false, fun _ _ => rfl⟩) Try.func26 rfl (by kernel_rfl) Try.ntmps26 (by simp) ?_
  simp only [argsFr, List.zipIdx_cons, List.zipIdx_nil, go_sem]
  repeat' (first | refine awp_seqK fun K hK => ?_ | (refine awp_regionK 2077 rfl ?_; simp only [List.map_cons, List.map_nil]; simp (maxSteps := 1000000) (dsimp := false) (implicitDefEqProofs := false) (disch := omega) only [wrap64, go_sem]) | (refine awp_regionQK 2077 (by kernel_rfl) (by kernel_rfl) (by kernel_rfl) ?_; simp only [List.map_cons, List.map_nil]; simp (maxSteps := 1000000) (dsimp := false) (implicitDefEqProofs := false) (disch := omega) only [wrap64, go_sem]) | refine awp_block ?_ | (refine awp_skip ?_; simp only [go_sem]) | (refine awp_exit ?_; simp only [go_sem]) | (refine awp_ret ?_; try simp only [go_sem]) | (refine awp_condP rfl ?_; try simp only [go_sem]) | (refine BrP.mk (fun h => ?_) (fun h => ?_) <;> try simp (dsimp := false) (disch := omega) only [wrap64]) | (refine Br.mk (fun h => ?_) (fun h => ?_) <;> try simp (dsimp := false) (disch := omega) only [wrap64]) | refine Ob.mk (by first | omega | (intro _ _; rfl) | trivial | (intros; trivial) | assumption | (intro i hi; have h0 : i = 0 := (by omega); subst h0; first | rfl | trivial) | (intro i hi; have h0 : i = 0 ∨ i = 1 := (by omega); rcases h0 with rfl | rfl <;> rfl) | (intro i hi; have h0 : i = 0 ∨ i = 1 ∨ i = 2 := (by omega); rcases h0 with rfl | rfl | rfl <;> rfl)) ?_ | apply_assumption -exfalso -symm)
  all_goals (first | (show endQ _ _ _ _ _ _ _; (repeat (rename (∀ (A : Fr) (H : Hp), AWP _ _ _ _ A H → _) => hK; clear hK)); (repeat (rename (Fr → Hp → Prop) => K; clear K))) | (show Exists _; (repeat (rename (∀ (A : Fr) (H : Hp), AWP _ _ _ _ A H → _) => hK; clear hK)); (repeat (rename (Fr → Hp → Prop) => K; clear K))) | skip)
  refine awp_loop (ι := Nat) (fun k => [(4, .v (.int .i64 k)), (3, .own 7 0 1 xs.length), (0, .list false 1 xs.length (cM iv 0 xs))]) (fun k => Hp.emp.upd 7 (.cells xs.length (cM iv 0 (xs.take k ++ List.replicate (xs.length - k) 0)))) (fun k => k ≤ xs.length) (fun k => xs.length - k) 0 (Nat.zero_le _) (Sub.fr (by simp only [go_sem]; trivial)) ?_
  intro k hk
  have hl : (xs.take k ++ List.replicate (xs.length - k) 0).length = xs.length := by simp; omega
  repeat' (first | refine awp_seqK fun K hK => ?_ | (refine awp_regionK 2077 rfl ?_; simp only [List.map_cons, List.map_nil]; simp (maxSteps := 1000000) (dsimp := false) (implicitDefEqProofs := false) (disch := omega) only [wrap64, go_sem]) | (refine awp_regionQK 2077 (by kernel_rfl) (by kernel_rfl) (by kernel_rfl) ?_; simp only [List.map_cons, List.map_nil]; simp (maxSteps := 1000000) (dsimp := false) (implicitDefEqProofs := false) (disch := omega) only [wrap64, go_sem]) | refine awp_block ?_ | (refine awp_skip ?_; simp only [go_sem]) | (refine awp_exit ?_; simp only [go_sem]) | (refine awp_ret ?_; try simp only [go_sem]) | (refine awp_condP rfl ?_; try simp only [go_sem]) | (refine BrP.mk (fun h => ?_) (fun h => ?_) <;> try simp (dsimp := false) (disch := omega) only [wrap64]) | (refine Br.mk (fun h => ?_) (fun h => ?_) <;> try simp (dsimp := false) (disch := omega) only [wrap64]) | refine Ob.mk (by first | omega | (intro _ _; rfl) | trivial | (intros; trivial) | assumption | (intro i hi; have h0 : i = 0 := (by omega); subst h0; first | rfl | trivial) | (intro i hi; have h0 : i = 0 ∨ i = 1 := (by omega); rcases h0 with rfl | rfl <;> rfl) | (intro i hi; have h0 : i = 0 ∨ i = 1 ∨ i = 2 := (by omega); rcases h0 with rfl | rfl | rfl <;> rfl)) ?_ | apply_assumption -exfalso -symm)
  all_goals (first | (show endQ _ _ _ _ _ _ _; (repeat (rename (∀ (A : Fr) (H : Hp), AWP _ _ _ _ A H → _) => hK; clear hK)); (repeat (rename (Fr → Hp → Prop) => K; clear K))) | (show Exists _; (repeat (rename (∀ (A : Fr) (H : Hp), AWP _ _ _ _ A H → _) => hK; clear hK)); (repeat (rename (Fr → Hp → Prop) => K; clear K))) | skip)
  · have h' : k < xs.length := by omega
    refine ⟨k + 1, by omega, by omega, Sub.to (by simp only [go_sem]; trivial) (fun h B hB => ?_)⟩
    rw [fill_step xs k h']; exact hB
  · have h' : k = xs.length := by omega
    subst h'
    exact end_retI rfl rfl (by simp [Hp.upd]) rfl rfl
end Go.Proofs.Ytdllbnchcjgcdaa
end
section
namespace Go.Proofs.Ytdllbnchcjgcdaa
open Go.Av
set_option linter.unusedSimpArgs false
set_option linter.unusedVariables false
attribute [local irreducible] AWP CallG Ob Br BrP Go.Av.Sub endQ AOps OpV AC thenA blkA opsVC opVC withA withArgs opsQ opQ CallQ withA2 withArgs2

theorem inRange_ok (x lo hi : Int) : AC Try.prog 108 [.v (.int .i64 (x)), .v (.int .i64 (lo)), .v (.int .i64 (hi))] Hp.emp (fun _ => false) (retV (.v (.bool (decide (lo ≤ x ∧ x ≤ hi))))) := by
  refine ac_of_awp (N := ⟨_, fun _ => false, fun _ _ => rfl⟩) Try.func108 rfl (by kernel_rfl) Try.ntmps108 (by simp) ?_
  simp only [argsFr, List.zipIdx_cons, List.zipIdx_nil, go_sem]
  repeat' (first | refine awp_seqK fun K hK => ?_ | (refine awp_regionK 71 rfl ?_; simp only [List.map_cons, List.map_nil]; simp (maxSteps := 1000000) (dsimp := false) (implicitDefEqProofs := false) (disch := omega) only [wrap64, go_sem]) | (refine awp_regionQK 71 (by kernel_rfl) (by kernel_rfl) (by kernel_rfl) ?_; simp only [List.map_cons, List.map_nil]; simp (maxSteps := 1000000) (dsimp := false) (implicitDefEqProofs := false) (disch := omega) only [wrap64, go_sem]) | refine awp_block ?_ | (refine awp_skip ?_; simp only [go_sem]) | (refine awp_exit ?_; simp only [go_sem]) | (refine awp_ret ?_; try simp only [go_sem]) | (refine awp_condP rfl ?_; try simp only [go_sem]) | (refine BrP.mk (fun h => ?_) (fun h => ?_) <;> try simp (dsimp := false) (disch := omega) only [wrap64]) | (refine Br.mk (fun h => ?_) (fun h => ?_) <;> try simp (dsimp := false) (disch := omega) only [wrap64]) | refine Ob.mk (by first | omega | (intro _ _; rfl) | trivial | (intros; trivial) | assumption | (intro i hi; have h0 : i = 0 := (by omega); subst h0; first | rfl | trivial) | (intro i hi; have h0 : i = 0 ∨ i = 1 := (by omega); rcases h0 with rfl | rfl <;> rfl) | (intro i hi; have h0 : i = 0 ∨ i = 1 ∨ i = 2 := (by omega); rcases h0 with rfl | rfl | rfl <;> rfl)) ?_ | apply_assumption -exfalso -symm)
  all_goals (first | (show endQ _ _ _ _ _ _ _; (repeat (rename (∀ (A : Fr) (H : Hp), AWP _ _ _ _ A H → _) => hK; clear hK)); (repeat (rename (Fr → Hp → Prop) => K; clear K))) | (show Exists _; (repeat (rename (∀ (A : Fr) (H : Hp), AWP _ _ _ _ A H → _) => hK; clear hK)); (repeat (rename (Fr → Hp → Prop) => K; clear K))) | skip)
  all_goals (refine end_retB rfl rfl ?_; simp only [decide_eq_true_eq, Bool.false_eq_true, false_iff, true_iff, iff_true, iff_false, Bool.not_eq_true', decide_eq_false_iff_not]; omega)

theorem within_ok (x lo hi : Int) : AC Try.prog 111 [.v (.int .i64 (x)), .v (.int .i64 (lo)), .v (.int .i64 (hi))] Hp.emp (fun _ => false) (retV (.v (.bool (decide (lo ≤ x ∧ x ≤ hi))))) := by
  refine ac_of_awp (N := ⟨_, fun _ => false, fun _ _ => rfl⟩) Try.func111 rfl (by kernel_rfl) Try.ntmps111 (by simp) ?_
  simp only [argsFr, List.zipIdx_cons, List.zipIdx_nil, go_sem]
  repeat' (first | refine awp_seqK fun K hK => ?_ | (refine awp_regionK 71 rfl ?_; simp only [List.map_cons, List.map_nil]; simp (maxSteps := 1000000) (dsimp := false) (implicitDefEqProofs := false) (disch := omega) only [wrap64, go_sem]) | (refine awp_regionQK 71 (by kernel_rfl) (by kernel_rfl) (by kernel_rfl) ?_; simp only [List.map_cons, List.map_nil]; simp (maxSteps := 1000000) (dsimp := false) (implicitDefEqProofs := false) (disch := omega) only [wrap64, go_sem]) | refine awp_block ?_ | (refine awp_skip ?_; simp only [go_sem]) | (refine awp_exit ?_; simp only [go_sem]) | (refine awp_ret ?_; try simp only [go_sem]) | (refine awp_condP rfl ?_; try simp only [go_sem]) | (refine BrP.mk (fun h => ?_) (fun h => ?_) <;> try simp (dsimp := false) (disch := omega) only [wrap64]) | (refine Br.mk (fun h => ?_) (fun h => ?_) <;> try simp (dsimp := false) (disch := omega) only [wrap64]) | refine Ob.mk (by first | omega | (intro _ _; rfl) | trivial | (intros; trivial) | assumption | (intro i hi; have h0 : i = 0 := (by omega); subst h0; first | rfl | trivial) | (intro i hi; have h0 : i = 0 ∨ i = 1 := (by omega); rcases h0 with rfl | rfl <;> rfl) | (intro i hi; have h0 : i = 0 ∨ i = 1 ∨ i = 2 := (by omega); rcases h0 with rfl | rfl | rfl <;> rfl)) ?_ | apply_assumption -exfalso -symm)
  all_goals (first | (show endQ _ _ _ _ _ _ _; (repeat (rename (∀ (A : Fr) (H : Hp), AWP _ _ _ _ A H → _) => hK; clear hK)); (repeat (rename (Fr → Hp → Prop) => K; clear K))) | (show Exists _; (repeat (rename (∀ (A : Fr) (H : Hp), AWP _ _ _ _ A H → _) => hK; clear hK)); (repeat (rename (Fr → Hp → Prop) => K; clear K))) | skip)
  all_goals (refine end_retB rfl rfl ?_; simp only [decide_eq_true_eq, Bool.false_eq_true, false_iff, true_iff, iff_true, iff_false, Bool.not_eq_true', decide_eq_false_iff_not]; omega)

theorem length_ok (xs : List Int) : AC Try.prog 113 [ints xs] Hp.emp (fun _ => false) (retV (.v (.int .i64 (xs.length)))) := by
  refine ac_of_awp (N := ⟨_, fun _ => false, fun _ _ => rfl⟩) Try.func113 rfl (by kernel_rfl) Try.ntmps113 (by simp) ?_
  simp only [argsFr, List.zipIdx_cons, List.zipIdx_nil, go_sem]
  repeat' (first | refine awp_seqK fun K hK => ?_ | (refine awp_regionK 5 rfl ?_; simp only [List.map_cons, List.map_nil]; simp (maxSteps := 1000000) (dsimp := false) (implicitDefEqProofs := false) (disch := omega) only [wrap64, go_sem]) | (refine awp_regionQK 5 (by kernel_rfl) (by kernel_rfl) (by kernel_rfl) ?_; simp only [List.map_cons, List.map_nil]; simp (maxSteps := 1000000) (dsimp := false) (implicitDefEqProofs := false) (disch := omega) only [wrap64, go_sem]) | refine awp_block ?_ | (refine awp_skip ?_; simp only [go_sem]) | (refine awp_exit ?_; simp only [go_sem]) | (refine awp_ret ?_; try simp only [go_sem]) | (refine awp_condP rfl ?_; try simp only [go_sem]) | (refine BrP.mk (fun h => ?_) (fun h => ?_) <;> try simp (dsimp := false) (disch := omega) only [wrap64]) | (refine Br.mk (fun h => ?_) (fun h => ?_) <;> try simp (dsimp := false) (disch := omega) only [wrap64]) | refine Ob.mk (by first | omega | (intro _ _; rfl) | trivial | (intros; trivial) | assumption | (intro i hi; have h0 : i = 0 := (by omega); subst h0; first | rfl | trivial) | (intro i hi; have h0 : i = 0 ∨ i = 1 := (by omega); rcases h0 with rfl | rfl <;> rfl) | (intro i hi; have h0 : i = 0 ∨ i = 1 ∨ i = 2 := (by omega); rcases h0 with rfl | rfl | rfl <;> rfl)) ?_ | apply_assumption -exfalso -symm)
  all_goals (first | (show endQ _ _ _ _ _ _ _; (repeat (rename (∀ (A : Fr) (H : Hp), AWP _ _ _ _ A H → _) => hK; clear hK)); (repeat (rename (Fr → Hp → Prop) => K; clear K))) | (show Exists _; (repeat (rename (∀ (A : Fr) (H : Hp), AWP _ _ _ _ A H → _) => hK; clear hK)); (repeat (rename (Fr → Hp → Prop) => K; clear K))) | skip)
  exact end_retV rfl rfl

theorem eq_of_getD {xs ys : List Int} (hl : xs.length = ys.length) (h : ∀ j, j < xs.length → xs.getD j 0 = ys.getD j 0) : xs = ys := by
  refine List.ext_getElem hl fun i h1 h2 => ?_
  have := h i h1
  simpa [h1, h2] using this

theorem eqInt64S_ok (xs ys : List Int) (hx : xs.length ≤ 1048576) : AC Try.prog 28 [ints xs, ints ys] Hp.emp (fun _ => false) (retV (.v (.bool (decide (xs = ys))))) := by
  refine ac_of_awp (N := ⟨_, fun _ => false, fun _ _ => rfl⟩) Try.func28 rfl (by kernel_rfl) Try.ntmps28 (by simp) ?_
  simp only [argsFr, List.zipIdx_cons, List.zipIdx_nil, go_sem]
  repeat' (first | refine awp_seqK fun K hK => ?_ | (refine awp_regionK 33571891 rfl ?_; simp only [List.map_cons, List.map_nil]; simp (maxSteps := 1000000) (dsimp := false) (implicitDefEqProofs := false) (disch := omega) only [wrap64, go_sem]) | (refine awp_regionQK 33571891 (by kernel_rfl) (by kernel_rfl) (by kernel_rfl) ?_; simp only [List.map_cons, List.map_nil]; simp (maxSteps := 1000000) (dsimp := false) (implicitDefEqProofs := false) (disch := omega) only [wrap64, go_sem]) | refine awp_block ?_ | (refine awp_skip ?_; simp only [go_sem]) | (refine awp_exit ?_; simp only [go_sem]) | (refine awp_ret ?_; try simp only [go_sem]) | (refine awp_condP rfl ?_; try simp only [go_sem]) | (refine BrP.mk (fun h => ?_) (fun h => ?_) <;> try simp (dsimp := false) (disch := omega) only [wrap64]) | (refine Br.mk (fun h => ?_) (fun h => ?_) <;> try simp (dsimp := false) (disch := omega) only [wrap64]) | refine Ob.mk (by first | omega | (intro _ _; rfl) | trivial | (intros; trivial) | assumption | (intro i hi; have h0 : i = 0 := (by omega); subst h0; first | rfl | trivial) | (intro i hi; have h0 : i = 0 ∨ i = 1 := (by omega); rcases h0 with rfl | rfl <;> rfl) | (intro i hi; have h0 : i = 0 ∨ i = 1 ∨ i = 2 := (by omega); rcases h0 with rfl | rfl | rfl <;> rfl)) ?_ | apply_assumption -exfalso -symm)
  all_goals (first | (show endQ _ _ _ _ _ _ _; (repeat (rename (∀ (A : Fr) (H : Hp), AWP _ _ _ _ A H → _) => hK; clear hK)); (repeat (rename (Fr → Hp → Prop) => K; clear K))) | (show Exists _; (repeat (rename (∀ (A : Fr) (H : Hp), AWP _ _ _ _ A H → _) => hK; clear hK)); (repeat (rename (Fr → Hp → Prop) => K; clear K))) | skip)
  · have hl : xs.length = ys.length := by omega
    refine awp_loop (ι := Nat) (fun k => [(5, .v (.int .i64 (k))), (0, .list false 1 (xs).length (cM iv 0 (xs))), (1, .list false 1 (ys).length (cM iv 0 (ys)))]) (fun k => Hp.emp) (fun k => k ≤ xs.length ∧ ∀ j, j < k → xs.getD j 0 = ys.getD j 0) (fun k => xs.length - k) 0 ?_ (Sub.toL (by simp only [go_sem] <;> first | trivial | (simp only [Option.some.injEq, AV.v.injEq, AV.own.injEq, AV.list.injEq, Value.int.injEq, Value.bool.injEq, true_and, and_true]; first | omega | (simp; done)) | (simp; done) | (simp; omega)) (by (repeat' (first | exact Hp.le_emp _ | exact Hp.le_refl _ | refine Hp.le_upd ?_ ?_)); all_goals (first | rfl | (simp only [go_sem]; first | rfl | (refine cellsE ?_ ?_ <;> (simp)) | (simp))))) ?_
    · exact ⟨Nat.zero_le _, fun j h => absurd h (Nat.not_lt_zero _)⟩
    intro k hk
    repeat' (first | refine awp_seqK fun K hK => ?_ | (refine awp_regionK 33571891 rfl ?_; simp only [List.map_cons, List.map_nil]; simp (maxSteps := 1000000) (dsimp := false) (implicitDefEqProofs := false) (disch := omega) only [wrap64, go_sem]) | (refine awp_regionQK 33571891 (by kernel_rfl) (by kernel_rfl) (by kernel_rfl) ?_; simp only [List.map_cons, List.map_nil]; simp (maxSteps := 1000000) (dsimp := false) (implicitDefEqProofs := false) (disch := omega) only [wrap64, go_sem]) | refine awp_block ?_ | (refine awp_skip ?_; simp only [go_sem]) | (refine awp_exit ?_; simp only [go_sem]) | (refine awp_ret ?_; try simp only [go_sem]) | (refine awp_condP rfl ?_; try simp only [go_sem]) | (refine BrP.mk (fun h => ?_) (fun h => ?_) <;> try simp (dsimp := false) (disch := omega) only [wrap64]) | (refine Br.mk (fun h => ?_) (fun h => ?_) <;> try simp (dsimp := false) (disch := omega) only [wrap64]) | refine Ob.mk (by first | omega | (intro _ _; rfl) | trivial | (intros; trivial) | assumption | (intro i hi; have h0 : i = 0 := (by omega); subst h0; first | rfl | trivial) | (intro i hi; have h0 : i = 0 ∨ i = 1 := (by omega); rcases h0 with rfl | rfl <;> rfl) | (intro i hi; have h0 : i = 0 ∨ i = 1 ∨ i = 2 := (by omega); rcases h0 with rfl | rfl | rfl <;> rfl)) ?_ | apply_assumption -exfalso -symm)
    all_goals (first | (show endQ _ _ _ _ _ _ _; (repeat (rename (∀ (A : Fr) (H : Hp), AWP _ _ _ _ A H → _) => hK; clear hK)); (repeat (rename (Fr → Hp → Prop) => K; clear K))) | (show Exists _; (repeat (rename (∀ (A : Fr) (H : Hp), AWP _ _ _ _ A H → _) => hK; clear hK)); (repeat (rename (Fr → Hp → Prop) => K; clear K))) | skip)
    · refine ⟨k + 1, ?_, ?_, Sub.toL (by simp only [go_sem] <;> first | trivial | (simp only [Option.some.injEq, AV.v.injEq, AV.own.injEq, AV.list.injEq, Value.int.injEq, Value.bool.injEq, true_and, and_true]; first | omega | (simp; done)) | (simp; done) | (simp; omega)) (by (repeat' (first | exact Hp.le_emp _ | exact Hp.le_refl _ | refine Hp.le_upd ?_ ?_)); all_goals (first | rfl | (simp only [go_sem]; first | rfl | (refine cellsE ?_ ?_ <;> (simp)) | (simp))))⟩
      · refine ⟨by omega, fun j hj => ?_⟩
        by_cases h' : j = k
        · subst h'; exact h
        · exact hk.2 j (by omega)
      · omega
    · refine end_retB rfl rfl ?_
      simp only [Bool.false_eq_true, false_iff]
      rintro rfl
      exact h rfl
    · refine end_retB rfl rfl ?_
      simp only [true_iff]
      exact eq_of_getD hl fun j hj => hk.2 j (by omega)
  · exact end_retB rfl rfl (by simp; rintro rfl; simp at h)

/-- The numbers from k on. -/
def marks (k n : Nat) : List Int := (List.range n).map fun i => ((k + i : Nat) : Int)
theorem marks_length (k n : Nat) : (marks k n).length = n := by simp [marks]
theorem marks_getD (k n i : Nat) (h : i < n) : (marks k n).getD i 0 = ((k + i : Nat) : Int) := by simp [marks, h]
theorem marks_set (xs : List Int) (k i : Nat) (h : i < xs.length) : (marks k i ++ xs.drop i).set i ((k + i : Nat) : Int) = marks k (i + 1) ++ xs.drop (i + 1) := by
  rw [List.set_append_right _ _ (by simp [marks]), marks_length, Nat.sub_self, List.drop_eq_getElem_cons h, List.set_cons_zero]
  simp [marks, List.range_succ]

theorem markInt64S_ok (xs : List Int) (k : Nat) (hx : xs.length ≤ 1048576) (hk : k ≤ 1099511627776) (h : Nat) : AC Try.prog 31 [.own h 0 1 xs.length, .v (.int .i64 (k))] (Hp.emp.upd h (.cells xs.length (cM iv 0 xs))) (· == h) (postM h (.v (.int .i64 (((k + xs.length : Nat) : Int)))) (.cells xs.length (cM iv 0 (marks k xs.length)))) := by
  refine AC.any (h0 := 1000000) ?_ _ (fun _ => rfl) (fun _ => rfl) (fun _ => rfl) (fun _ => rfl)
  refine ac_of_awp (N := ⟨_, (· == 1000000), fun h hh => beq_eq_false_iff_ne.2 (Nat.ne_of_lt (Nat.lt_of_lt_of_le hh (by decide)))⟩) Try.func31 rfl (by kernel_rfl) Try.ntmps31 (by simp) ?_
  simp only [argsFr, List.zipIdx_cons, List.zipIdx_nil, go_sem]
  repeat' (first | refine awp_seqK fun K hK => ?_ | (refine awp_regionK 563 rfl ?_; simp only [List.map_cons, List.map_nil]; simp (maxSteps := 1000000) (dsimp := false) (implicitDefEqProofs := false) (disch := omega) only [wrap64, go_sem]) | (refine awp_regionQK 563 (by kernel_rfl) (by kernel_rfl) (by kernel_rfl) ?_; simp only [List.map_cons, List.map_nil]; simp (maxSteps := 1000000) (dsimp := false) (implicitDefEqProofs := false) (disch := omega) only [wrap64, go_sem]) | refine awp_block ?_ | (refine awp_skip ?_; simp only [go_sem]) | (refine awp_exit ?_; simp only [go_sem]) | (refine awp_ret ?_; try simp only [go_sem]) | (refine awp_condP rfl ?_; try simp only [go_sem]) | (refine BrP.mk (fun h => ?_) (fun h => ?_) <;> try simp (dsimp := false) (disch := omega) only [wrap64]) | (refine Br.mk (fun h => ?_) (fun h => ?_) <;> try simp (dsimp := false) (disch := omega) only [wrap64]) | refine Ob.mk (by first | omega | (intro _ _; rfl) | trivial | (intros; trivial) | assumption | (intro i hi; have h0 : i = 0 := (by omega); subst h0; first | rfl | trivial) | (intro i hi; have h0 : i = 0 ∨ i = 1 := (by omega); rcases h0 with rfl | rfl <;> rfl) | (intro i hi; have h0 : i = 0 ∨ i = 1 ∨ i = 2 := (by omega); rcases h0 with rfl | rfl | rfl <;> rfl)) ?_ | apply_assumption -exfalso -symm)
  all_goals (first | (show endQ _ _ _ _ _ _ _; (repeat (rename (∀ (A : Fr) (H : Hp), AWP _ _ _ _ A H → _) => hK; clear hK)); (repeat (rename (Fr → Hp → Prop) => K; clear K))) | (show Exists _; (repeat (rename (∀ (A : Fr) (H : Hp), AWP _ _ _ _ A H → _) => hK; clear hK)); (repeat (rename (Fr → Hp → Prop) => K; clear K))) | skip)
  refine awp_loop (ι := Nat) (fun i => [(1, .v (.int .i64 ((k + i : Nat)))), (0, .own 1000000 0 1 xs.length), (5, .v (.int .i64 (i)))]) (fun i => Hp.emp.upd 1000000 (.cells xs.length (cM iv 0 (marks k i ++ xs.drop i)))) (fun i => i ≤ xs.length) (fun i => xs.length - i) 0 ?_ (Sub.toL (by simp only [go_sem] <;> first | trivial | (simp only [Option.some.injEq, AV.v.injEq, AV.own.injEq, AV.list.injEq, Value.int.injEq, Value.bool.injEq, true_and, and_true]; first | omega | (simp [marks]; done)) | (simp [marks]; done) | (simp [marks]; omega)) (by (repeat' (first | exact Hp.le_emp _ | exact Hp.le_refl _ | refine Hp.le_upd ?_ ?_)); all_goals (first | rfl | (simp only [go_sem]; first | rfl | (refine cellsE ?_ ?_ <;> (simp [marks])) | (simp [marks]))))) ?_
  · exact Nat.zero_le _
  intro i hi
  have hl : (marks k i ++ xs.drop i).length = xs.length := by simp [marks]; omega
  repeat' (first | refine awp_seqK fun K hK => ?_ | (refine awp_regionK 563 rfl ?_; simp only [List.map_cons, List.map_nil]; simp (maxSteps := 1000000) (dsimp := false) (implicitDefEqProofs := false) (disch := omega) only [wrap64, go_sem]) | (refine awp_regionQK 563 (by kernel_rfl) (by kernel_rfl) (by kernel_rfl) ?_; simp only [List.map_cons, List.map_nil]; simp (maxSteps := 1000000) (dsimp := false) (implicitDefEqProofs := false) (disch := omega) only [wrap64, go_sem]) | refine awp_block ?_ | (refine awp_skip ?_; simp only [go_sem]) | (refine awp_exit ?_; simp only [go_sem]) | (refine awp_ret ?_; try simp only [go_sem]) | (refine awp_condP rfl ?_; try simp only [go_sem]) | (refine BrP.mk (fun h => ?_) (fun h => ?_) <;> try simp (dsimp := false) (disch := omega) only [wrap64]) | (refine Br.mk (fun h => ?_) (fun h => ?_) <;> try simp (dsimp := false) (disch := omega) only [wrap64]) | refine Ob.mk (by first | omega | (intro _ _; rfl) | trivial | (intros; trivial) | assumption | (intro i hi; have h0 : i = 0 := (by omega); subst h0; first | rfl | trivial) | (intro i hi; have h0 : i = 0 ∨ i = 1 := (by omega); rcases h0 with rfl | rfl <;> rfl) | (intro i hi; have h0 : i = 0 ∨ i = 1 ∨ i = 2 := (by omega); rcases h0 with rfl | rfl | rfl <;> rfl)) ?_ | apply_assumption -exfalso -symm)
  all_goals (first | (show endQ _ _ _ _ _ _ _; (repeat (rename (∀ (A : Fr) (H : Hp), AWP _ _ _ _ A H → _) => hK; clear hK)); (repeat (rename (Fr → Hp → Prop) => K; clear K))) | (show Exists _; (repeat (rename (∀ (A : Fr) (H : Hp), AWP _ _ _ _ A H → _) => hK; clear hK)); (repeat (rename (Fr → Hp → Prop) => K; clear K))) | skip)
  · refine ⟨i + 1, ?_, ?_, Sub.toL (by simp only [go_sem] <;> first | trivial | (simp only [Option.some.injEq, AV.v.injEq, AV.own.injEq, AV.list.injEq, Value.int.injEq, Value.bool.injEq, true_and, and_true]; first | omega | (simp; done)) | (simp; done) | (simp; omega)) (by (repeat' (first | exact Hp.le_emp _ | exact Hp.le_refl _ | refine Hp.le_upd ?_ ?_)); all_goals (first | rfl | (simp only [go_sem]; first | rfl | (refine cellsE ?_ ?_ <;> (rw [marks_set xs k i (by omega)])) | (rw [marks_set xs k i (by omega)]))))⟩
    all_goals omega
  · have e : i = xs.length := by omega
    subst e
    exact end_M rfl rfl (by simp [Hp.upd]) rfl

theorem heldInt64S_ok (xs : List Int) (k : Nat) (hx : xs.length ≤ 1048576) (hk : k ≤ 1099511627776) : AC Try.prog 32 [ints xs, .v (.int .i64 (k))] Hp.emp (fun _ => false) (retV (.v (.int .i64 (if xs = marks k xs.length then ((k + xs.length : Nat) : Int) else -1)))) := by
  refine ac_of_awp (N := ⟨_, fun _ => false, fun _ _ => rfl⟩) Try.func32 rfl (by kernel_rfl) Try.ntmps32 (by simp) ?_
  simp only [argsFr, List.zipIdx_cons, List.zipIdx_nil, go_sem]
  repeat' (first | refine awp_seqK fun K hK => ?_ | (refine awp_regionK 131635 rfl ?_; simp only [List.map_cons, List.map_nil]; simp (maxSteps := 1000000) (dsimp := false) (implicitDefEqProofs := false) (disch := omega) only [wrap64, go_sem]) | (refine awp_regionQK 131635 (by kernel_rfl) (by kernel_rfl) (by kernel_rfl) ?_; simp only [List.map_cons, List.map_nil]; simp (maxSteps := 1000000) (dsimp := false) (implicitDefEqProofs := false) (disch := omega) only [wrap64, go_sem]) | refine awp_block ?_ | (refine awp_skip ?_; simp only [go_sem]) | (refine awp_exit ?_; simp only [go_sem]) | (refine awp_ret ?_; try simp only [go_sem]) | (refine awp_condP rfl ?_; try simp only [go_sem]) | (refine BrP.mk (fun h => ?_) (fun h => ?_) <;> try simp (dsimp := false) (disch := omega) only [wrap64]) | (refine Br.mk (fun h => ?_) (fun h => ?_) <;> try simp (dsimp := false) (disch := omega) only [wrap64]) | refine Ob.mk (by first | omega | (intro _ _; rfl) | trivial | (intros; trivial) | assumption | (intro i hi; have h0 : i = 0 := (by omega); subst h0; first | rfl | trivial) | (intro i hi; have h0 : i = 0 ∨ i = 1 := (by omega); rcases h0 with rfl | rfl <;> rfl) | (intro i hi; have h0 : i = 0 ∨ i = 1 ∨ i = 2 := (by omega); rcases h0 with rfl | rfl | rfl <;> rfl)) ?_ | apply_assumption -exfalso -symm)
  all_goals (first | (show endQ _ _ _ _ _ _ _; (repeat (rename (∀ (A : Fr) (H : Hp), AWP _ _ _ _ A H → _) => hK; clear hK)); (repeat (rename (Fr → Hp → Prop) => K; clear K))) | (show Exists _; (repeat (rename (∀ (A : Fr) (H : Hp), AWP _ _ _ _ A H → _) => hK; clear hK)); (repeat (rename (Fr → Hp → Prop) => K; clear K))) | skip)
  refine awp_loop (ι := Nat) (fun i => [(1, .v (.int .i64 ((k + i : Nat)))), (0, .list false 1 (xs).length (cM iv 0 (xs))), (5, .v (.int .i64 (i)))]) (fun i => Hp.emp) (fun i => i ≤ xs.length ∧ ∀ j, j < i → xs.getD j 0 = (k + j : Nat)) (fun i => xs.length - i) 0 ?_ (Sub.toL (by simp only [go_sem] <;> first | trivial | (simp only [Option.some.injEq, AV.v.injEq, AV.own.injEq, AV.list.injEq, Value.int.injEq, Value.bool.injEq, true_and, and_true]; first | omega | (simp; done)) | (simp; done) | (simp; omega)) (by (repeat' (first | exact Hp.le_emp _ | exact Hp.le_refl _ | refine Hp.le_upd ?_ ?_)); all_goals (first | rfl | (simp only [go_sem]; first | rfl | (refine cellsE ?_ ?_ <;> (simp)) | (simp))))) ?_
  · exact ⟨Nat.zero_le _, fun j h => absurd h (Nat.not_lt_zero _)⟩
  intro i hi
  repeat' (first | refine awp_seqK fun K hK => ?_ | (refine awp_regionK 131635 rfl ?_; simp only [List.map_cons, List.map_nil]; simp (maxSteps := 1000000) (dsimp := false) (implicitDefEqProofs := false) (disch := omega) only [wrap64, go_sem]) | (refine awp_regionQK 131635 (by kernel_rfl) (by kernel_rfl) (by kernel_rfl) ?_; simp only [List.map_cons, List.map_nil]; simp (maxSteps := 1000000) (dsimp := false) (implicitDefEqProofs := false) (disch := omega) only [wrap64, go_sem]) | refine awp_block ?_ | (refine awp_skip ?_; simp only [go_sem]) | (refine awp_exit ?_; simp only [go_sem]) | (refine awp_ret ?_; try simp only [go_sem]) | (refine awp_condP rfl ?_; try simp only [go_sem]) | (refine BrP.mk (fun h => ?_) (fun h => ?_) <;> try simp (dsimp := false) (disch := omega) only [wrap64]) | (refine Br.mk (fun h => ?_) (fun h => ?_) <;> try simp (dsimp := false) (disch := omega) only [wrap64]) | refine Ob.mk (by first | omega | (intro _ _; rfl) | trivial | (intros; trivial) | assumption | (intro i hi; have h0 : i = 0 := (by omega); subst h0; first | rfl | trivial) | (intro i hi; have h0 : i = 0 ∨ i = 1 := (by omega); rcases h0 with rfl | rfl <;> rfl) | (intro i hi; have h0 : i = 0 ∨ i = 1 ∨ i = 2 := (by omega); rcases h0 with rfl | rfl | rfl <;> rfl)) ?_ | apply_assumption -exfalso -symm)
  all_goals (first | (show endQ _ _ _ _ _ _ _; (repeat (rename (∀ (A : Fr) (H : Hp), AWP _ _ _ _ A H → _) => hK; clear hK)); (repeat (rename (Fr → Hp → Prop) => K; clear K))) | (show Exists _; (repeat (rename (∀ (A : Fr) (H : Hp), AWP _ _ _ _ A H → _) => hK; clear hK)); (repeat (rename (Fr → Hp → Prop) => K; clear K))) | skip)
  · refine ⟨i + 1, ?_, ?_, Sub.toL (by simp only [go_sem] <;> first | trivial | (simp only [Option.some.injEq, AV.v.injEq, AV.own.injEq, AV.list.injEq, Value.int.injEq, Value.bool.injEq, true_and, and_true]; first | omega | (simp; done)) | (simp; done) | (simp; omega)) (by (repeat' (first | exact Hp.le_emp _ | exact Hp.le_refl _ | refine Hp.le_upd ?_ ?_)); all_goals (first | rfl | (simp only [go_sem]; first | rfl | (refine cellsE ?_ ?_ <;> (simp)) | (simp))))⟩
    · refine ⟨by omega, fun j hj => ?_⟩
      by_cases h' : j = i
      · subst h'; exact h
      · exact hi.2 j (by omega)
    · omega
  · refine end_retN rfl rfl ?_
    rw [if_neg]
    intro e
    have h' : i < xs.length := by omega
    rw [e, marks_getD k _ i h'] at h
    exact h rfl
  · have e : i = xs.length := by omega
    subst e
    refine end_retN rfl rfl ?_
    rw [if_pos (eq_of_getD (marks_length k _).symm fun j hj => by rw [hi.2 j hj, marks_getD k _ j hj])]
end Go.Proofs.Ytdllbnchcjgcdaa
end
section
namespace Go.Proofs.Ytdllbnchcjgcdaa
open Go.Av
set_option linter.unusedSimpArgs false
set_option linter.unusedVariables false
attribute [local irreducible] AWP CallG Ob Br BrP Go.Av.Sub endQ AOps OpV AC thenA blkA opsVC opVC withA withArgs opsQ opQ CallQ withA2 withArgs2

/-- A letter is one of g generators or an inverse. -/
def isL (g x : Int) : Prop := x ≠ 0 ∧ (-8 ≤ x ∧ x ≤ 8) ∧ x ≤ g ∧ -x ≤ g
instance (g x : Int) : Decidable (isL g x) := by unfold isL; infer_instance
def isW (g : Int) (w : List Int) : Prop := w.length ≤ 200 ∧ ∀ j, j < w.length → isL g (w.getD j 0)
instance (g : Int) (w : List Int) : Decidable (isW g w) := by unfold isW; infer_instance

def inv (w : List Int) : List Int := (w.map (- ·)).reverse
end Go.Proofs.Ytdllbnchcjgcdaa
end
section
namespace Go.Proofs.Ytdllbnchcjgcdaa
open Go.Av
set_option linter.unusedSimpArgs false
set_option linter.unusedVariables false
attribute [local irreducible] AWP CallG Ob Br BrP Go.Av.Sub endQ AOps OpV AC thenA blkA opsVC opVC withA withArgs opsQ opQ CallQ withA2 withArgs2

/-- The room that is left behind a row. -/
def szI (xs : List Int) (l : Int) : Int := if l - xs.length < 0 then -1 else l - xs.length
def szGo : List (List Int) → Int → Int
  | [], l => l
  | x :: r, l => if szI x l < 0 then -1 else szGo r (szI x l)
def szII (xss : List (List Int)) (l : Int) : Int := if l - xss.length < 0 then -1 else szGo xss (l - xss.length)
def szP (p : Pz) (l : Int) : Int := if l - p.s.size < 0 then -1 else if szII p.m (l - p.s.size) < 0 then -1 else szII p.m (l - p.s.size)
abbrev room : Nat := 9223372036854775807

theorem szInt64S_ok (xs : List Int) (l : Int) (hx : xs.length ≤ room) (hl : -1 ≤ l ∧ l ≤ 1048576) : AC Try.prog 122 [ints xs, .v (.int .i64 (l))] Hp.emp (fun _ => false) (retV (.v (.int .i64 (szI xs l)))) := by
  unfold room at hx
  refine ac_of_awp (N := ⟨_, fun _ => false, fun _ _ => rfl⟩) Try.func122 rfl (by kernel_rfl) Try.ntmps122 (by simp) ?_
  simp only [argsFr, List.zipIdx_cons, List.zipIdx_nil, go_sem]
  repeat' (first | refine awp_seqK fun K hK => ?_ | (refine awp_regionK 1043 rfl ?_; simp only [List.map_cons, List.map_nil]; simp (maxSteps := 1000000) (dsimp := false) (implicitDefEqProofs := false) (disch := omega) only [wrap64, go_sem]) | (refine awp_regionQK 1043 (by kernel_rfl) (by kernel_rfl) (by kernel_rfl) ?_; simp only [List.map_cons, List.map_nil]; simp (maxSteps := 1000000) (dsimp := false) (implicitDefEqProofs := false) (disch := omega) only [wrap64, go_sem]) | refine awp_block ?_ | (refine awp_skip ?_; simp only [go_sem]) | (refine awp_exit ?_; simp only [go_sem]) | (refine awp_ret ?_; try simp only [go_sem]) | (refine awp_condP rfl ?_; try simp only [go_sem]) | (refine BrP.mk (fun h => ?_) (fun h => ?_) <;> try simp (dsimp := false) (disch := omega) only [wrap64]) | (refine Br.mk (fun h => ?_) (fun h => ?_) <;> try simp (dsimp := false) (disch := omega) only [wrap64]) | refine Ob.mk (by first | omega | (intro _ _; rfl) | trivial | (intros; trivial) | assumption | (intro i hi; have h0 : i = 0 := (by omega); subst h0; first | rfl | trivial) | (intro i hi; have h0 : i = 0 ∨ i = 1 := (by omega); rcases h0 with rfl | rfl <;> rfl) | (intro i hi; have h0 : i = 0 ∨ i = 1 ∨ i = 2 := (by omega); rcases h0 with rfl | rfl | rfl <;> rfl)) ?_ | apply_assumption -exfalso -symm)
  all_goals (first | (show endQ _ _ _ _ _ _ _; (repeat (rename (∀ (A : Fr) (H : Hp), AWP _ _ _ _ A H → _) => hK; clear hK)); (repeat (rename (Fr → Hp → Prop) => K; clear K))) | (show Exists _; (repeat (rename (∀ (A : Fr) (H : Hp), AWP _ _ _ _ A H → _) => hK; clear hK)); (repeat (rename (Fr → Hp → Prop) => K; clear K))) | skip)
  all_goals (refine end_retN rfl rfl ?_; unfold szI; split <;> omega)

theorem szI_bd (xs : List Int) (l : Int) (hl : -1 ≤ l ∧ l ≤ 1048576) : -1 ≤ szI xs l ∧ szI xs l ≤ 1048576 := by unfold szI; split <;> omega
theorem szGo_drop (xss : List (List Int)) (i : Nat) (l : Int) (h : i < xss.length) : szGo (xss.drop i) l = if szI (xss.getD i []) l < 0 then -1 else szGo (xss.drop (i + 1)) (szI (xss.getD i []) l) := by
  rw [List.drop_eq_getElem_cons h]
  simp [szGo, h]

theorem szInt64SS_ok (xss : List (List Int)) (l : Int) (hx : xss.length ≤ room) (hb : ∀ j, (xss.getD j []).length ≤ room) (hl : -1 ≤ l ∧ l ≤ 1048576) : AC Try.prog 74 [intss xss, .v (.int .i64 (l))] Hp.emp (fun _ => false) (retV (.v (.int .i64 (szII xss l)))) := by
  unfold room at hx
  refine ac_of_awp (N := ⟨_, fun _ => false, fun _ _ => rfl⟩) Try.func74 rfl (by kernel_rfl) Try.ntmps74 (by simp) ?_
  simp only [argsFr, List.zipIdx_cons, List.zipIdx_nil, go_sem]
  repeat' (first | refine awp_seqK fun K hK => ?_ | (refine awp_regionK 33589299 rfl ?_; simp only [List.map_cons, List.map_nil]; simp (maxSteps := 1000000) (dsimp := false) (implicitDefEqProofs := false) (disch := omega) only [wrap64, go_sem]) | (refine awp_regionQK 33589299 (by kernel_rfl) (by kernel_rfl) (by kernel_rfl) ?_; simp only [List.map_cons, List.map_nil]; simp (maxSteps := 1000000) (dsimp := false) (implicitDefEqProofs := false) (disch := omega) only [wrap64, go_sem]) | refine awp_block ?_ | (refine awp_skip ?_; simp only [go_sem]) | (refine awp_exit ?_; simp only [go_sem]) | (refine awp_ret ?_; try simp only [go_sem]) | (refine awp_condP rfl ?_; try simp only [go_sem]) | (refine BrP.mk (fun h => ?_) (fun h => ?_) <;> try simp (dsimp := false) (disch := omega) only [wrap64]) | (refine Br.mk (fun h => ?_) (fun h => ?_) <;> try simp (dsimp := false) (disch := omega) only [wrap64]) | refine Ob.mk (by first | omega | (intro _ _; rfl) | trivial | (intros; trivial) | assumption | (intro i hi; have h0 : i = 0 := (by omega); subst h0; first | rfl | trivial) | (intro i hi; have h0 : i = 0 ∨ i = 1 := (by omega); rcases h0 with rfl | rfl <;> rfl) | (intro i hi; have h0 : i = 0 ∨ i = 1 ∨ i = 2 := (by omega); rcases h0 with rfl | rfl | rfl <;> rfl)) ?_ | apply_assumption -exfalso -symm)
  all_goals (first | (show endQ _ _ _ _ _ _ _; (repeat (rename (∀ (A : Fr) (H : Hp), AWP _ _ _ _ A H → _) => hK; clear hK)); (repeat (rename (Fr → Hp → Prop) => K; clear K))) | (show Exists _; (repeat (rename (∀ (A : Fr) (H : Hp), AWP _ _ _ _ A H → _) => hK; clear hK)); (repeat (rename (Fr → Hp → Prop) => K; clear K))) | skip)
  · refine end_retN rfl rfl ?_; unfold szII; rw [if_pos (by omega)]
  refine awp_loop (ι := Nat × Int) (fun p => [(5, .v (.int .i64 (p.1))), (1, .v (.int .i64 (p.2))), (0, .list false 1 (xss).length (cM ints [] (xss)))]) (fun p => Hp.emp) (fun p => p.1 ≤ xss.length ∧ (0 ≤ p.2 ∧ p.2 ≤ 1048576) ∧ szGo (xss.drop p.1) p.2 = szGo xss (l - xss.length)) (fun p => xss.length - p.1) (0, l - xss.length) ?_ (Sub.toL (by simp only [go_sem] <;> first | trivial | (simp only [Option.some.injEq, AV.v.injEq, AV.own.injEq, AV.list.injEq, Value.int.injEq, Value.bool.injEq, true_and, and_true]; first | omega | (simp; done)) | (simp; done) | (simp; omega)) (by (repeat' (first | exact Hp.le_emp _ | exact Hp.le_refl _ | refine Hp.le_upd ?_ ?_)); all_goals (first | rfl | (simp only [go_sem]; first | rfl | (refine cellsE ?_ ?_ <;> (simp)) | (simp))))) ?_
  · exact ⟨Nat.zero_le _, by omega, rfl⟩
  rintro ⟨i, m⟩ ⟨h1, h2, h3⟩
  dsimp only at h1 h2 h3
  dsimp only
  repeat' (first | refine awp_seqK fun K hK => ?_ | (refine awp_regionK 33589299 rfl ?_; simp only [List.map_cons, List.map_nil]; simp (maxSteps := 1000000) (dsimp := false) (implicitDefEqProofs := false) (disch := omega) only [wrap64, go_sem]) | (refine awp_regionQK 33589299 (by kernel_rfl) (by kernel_rfl) (by kernel_rfl) ?_; simp only [List.map_cons, List.map_nil]; simp (maxSteps := 1000000) (dsimp := false) (implicitDefEqProofs := false) (disch := omega) only [wrap64, go_sem]) | refine awp_block ?_ | (refine awp_skip ?_; simp only [go_sem]) | (refine awp_exit ?_; simp only [go_sem]) | (refine awp_ret ?_; try simp only [go_sem]) | (refine awp_condP rfl ?_; try simp only [go_sem]) | (refine BrP.mk (fun h => ?_) (fun h => ?_) <;> try simp (dsimp := false) (disch := omega) only [wrap64]) | (refine Br.mk (fun h => ?_) (fun h => ?_) <;> try simp (dsimp := false) (disch := omega) only [wrap64]) | refine Ob.mk (by first | omega | (intro _ _; rfl) | trivial | (intros; trivial) | assumption | (intro i hi; have h0 : i = 0 := (by omega); subst h0; first | rfl | trivial) | (intro i hi; have h0 : i = 0 ∨ i = 1 := (by omega); rcases h0 with rfl | rfl <;> rfl) | (intro i hi; have h0 : i = 0 ∨ i = 1 ∨ i = 2 := (by omega); rcases h0 with rfl | rfl | rfl <;> rfl)) ?_ | ((first | ((first | refine atF (f := 122) ?_ | refine atQ (f := 122) ?_); (first | (refine cV (hac := szInt64S_ok _ _ (hb _) (by omega)) (hK := ?_)) | (refine cQV (hac := szInt64S_ok _ _ (hb _) (by omega)) (hK := ?_))))); simp (maxSteps := 1000000) (dsimp := false) (implicitDefEqProofs := false) (disch := omega) only [wrap64, go_sem]) | apply_assumption -exfalso -symm)
  all_goals (first | (show endQ _ _ _ _ _ _ _; (repeat (rename (∀ (A : Fr) (H : Hp), AWP _ _ _ _ A H → _) => hK; clear hK)); (repeat (rename (Fr → Hp → Prop) => K; clear K))) | (show Exists _; (repeat (rename (∀ (A : Fr) (H : Hp), AWP _ _ _ _ A H → _) => hK; clear hK)); (repeat (rename (Fr → Hp → Prop) => K; clear K))) | skip)
  · have h4 := szGo_drop xss i m (by omega)
    rw [if_pos (by assumption)] at h4
    refine end_retN rfl rfl ?_; unfold szII; rw [if_neg (by omega), ← h3, h4]
  · have h4 := szGo_drop xss i m (by omega)
    rw [if_neg (by assumption)] at h4
    have h5 := szI_bd (xss.getD i []) m (by omega)
    refine ⟨(i + 1, szI (xss.getD i []) m), ?_, ?_, Sub.toL (by simp only [go_sem] <;> first | trivial | (simp only [Option.some.injEq, AV.v.injEq, AV.own.injEq, AV.list.injEq, Value.int.injEq, Value.bool.injEq, true_and, and_true]; first | omega | (simp; done)) | (simp; done) | (simp; omega)) (by (repeat' (first | exact Hp.le_emp _ | exact Hp.le_refl _ | refine Hp.le_upd ?_ ?_)); all_goals (first | rfl | (simp only [go_sem]; first | rfl | (refine cellsE ?_ ?_ <;> (simp)) | (simp))))⟩
    · exact ⟨by dsimp only; omega, by dsimp only; omega, by rw [← h3, h4]⟩
    · dsimp only; omega
  · have e : i = xss.length := by omega
    refine end_retN rfl rfl ?_; unfold szII; rw [if_neg (by omega), ← h3, e, List.drop_length]; rfl

theorem szPuzzle_ok (p : Pz) (l : Int) (hs : p.s.size ≤ room) (hx : p.m.length ≤ room) (hb : ∀ j, (p.m.getD j []).length ≤ room) (hl : 0 ≤ l ∧ l ≤ 1048576) : AC Try.prog 23 [pz p, .v (.int .i64 (l))] Hp.emp (fun _ => false) (retV (.v (.int .i64 (szP p l)))) := by
  unfold room at hs
  refine ac_of_awp (N := ⟨_, fun _ => false, fun _ _ => rfl⟩) Try.func23 rfl (by kernel_rfl) Try.ntmps23 (by simp) ?_
  simp only [argsFr, List.zipIdx_cons, List.zipIdx_nil, go_sem]
  repeat' (first | refine awp_seqK fun K hK => ?_ | (refine awp_regionK 133143 rfl ?_; simp only [List.map_cons, List.map_nil]; simp (maxSteps := 1000000) (dsimp := false) (implicitDefEqProofs := false) (disch := omega) only [wrap64, go_sem]) | (refine awp_regionQK 133143 (by kernel_rfl) (by kernel_rfl) (by kernel_rfl) ?_; simp only [List.map_cons, List.map_nil]; simp (maxSteps := 1000000) (dsimp := false) (implicitDefEqProofs := false) (disch := omega) only [wrap64, go_sem]) | refine awp_block ?_ | (refine awp_skip ?_; simp only [go_sem]) | (refine awp_exit ?_; simp only [go_sem]) | (refine awp_ret ?_; try simp only [go_sem]) | (refine awp_condP rfl ?_; try simp only [go_sem]) | (refine BrP.mk (fun h => ?_) (fun h => ?_) <;> try simp (dsimp := false) (disch := omega) only [wrap64]) | (refine Br.mk (fun h => ?_) (fun h => ?_) <;> try simp (dsimp := false) (disch := omega) only [wrap64]) | refine Ob.mk (by first | omega | (intro _ _; rfl) | trivial | (intros; trivial) | assumption | (intro i hi; have h0 : i = 0 := (by omega); subst h0; first | rfl | trivial) | (intro i hi; have h0 : i = 0 ∨ i = 1 := (by omega); rcases h0 with rfl | rfl <;> rfl) | (intro i hi; have h0 : i = 0 ∨ i = 1 ∨ i = 2 := (by omega); rcases h0 with rfl | rfl | rfl <;> rfl)) ?_ | ((first | ((first | refine atF (f := 74) ?_ | refine atQ (f := 74) ?_); (first | (refine cV (hac := szInt64SS_ok _ _ hx hb (by omega)) (hK := ?_)) | (refine cQV (hac := szInt64SS_ok _ _ hx hb (by omega)) (hK := ?_))))); simp (maxSteps := 1000000) (dsimp := false) (implicitDefEqProofs := false) (disch := omega) only [wrap64, go_sem]) | apply_assumption -exfalso -symm)
  all_goals (first | (show endQ _ _ _ _ _ _ _; (repeat (rename (∀ (A : Fr) (H : Hp), AWP _ _ _ _ A H → _) => hK; clear hK)); (repeat (rename (Fr → Hp → Prop) => K; clear K))) | (show Exists _; (repeat (rename (∀ (A : Fr) (H : Hp), AWP _ _ _ _ A H → _) => hK; clear hK)); (repeat (rename (Fr → Hp → Prop) => K; clear K))) | skip)
  all_goals (refine end_retN rfl rfl ?_; unfold szP; (repeat' split) <;> first | rfl | omega)

theorem toInt64S_frz (xs : List Int) (hx : xs.length ≤ 1048576) : AC Try.prog 26 [ints xs] Hp.emp (fun _ => false) (retV (ints xs)) := (toInt64S_ok xs hx 0).frzI

def fillII (xss : List (List Int)) (k : Nat) (i : Nat) : AV := if i < k then ints (xss.getD i []) else .v (.slice none 0 0)
theorem fillII_zero (xss : List (List Int)) : zF [.slice none 0 0] = fillII xss 0 := by funext i; simp [zF, fillII, Nat.mod_one]
theorem fillII_step (xss : List (List Int)) (k : Nat) : setF (fillII xss k) k (.list false 1 (xss.getD k []).length (cM iv 0 (xss.getD k []))) = fillII xss (k + 1) := by
  funext j
  simp only [setF, fillII]
  by_cases h : j = k
  · subst h; simp [ints]
  · by_cases h2 : j < k
    · simp [h, h2, Nat.lt_succ_of_lt h2]
    · simp [h, h2, show ¬ j < k + 1 by omega]
theorem scF_fillII (p : Nat → Bool) (xss : List (List Int)) (k : Nat) : scF p (fillII xss k) = fillII xss k := by
  funext j; simp only [scF, fillII]; split <;> rfl

theorem toInt64SS_frz (xss : List (List Int)) (hx : xss.length ≤ 1048576) (hb : ∀ j, (xss.getD j []).length ≤ 1048576) : AC Try.prog 78 [intss xss] Hp.emp (fun _ => false) (retV (intss xss)) := by
  refine ac_of_awp (N := ⟨_, fun _ => false, fun _ _ => rfl⟩) Try.func78 rfl (by kernel_rfl) Try.ntmps78 (by simp) ?_
  simp only [argsFr, List.zipIdx_cons, List.zipIdx_nil, go_sem]
  repeat' (first | refine awp_seqK fun K hK => ?_ | (refine awp_regionK 2077 rfl ?_; simp only [List.map_cons, List.map_nil]; simp (maxSteps := 1000000) (dsimp := false) (implicitDefEqProofs := false) (disch := omega) only [wrap64, go_sem]) | (refine awp_regionQK 2077 (by kernel_rfl) (by kernel_rfl) (by kernel_rfl) ?_; simp only [List.map_cons, List.map_nil]; simp (maxSteps := 1000000) (dsimp := false) (implicitDefEqProofs := false) (disch := omega) only [wrap64, go_sem]) | refine awp_block ?_ | (refine awp_skip ?_; simp only [go_sem]) | (refine awp_exit ?_; simp only [go_sem]) | (refine awp_ret ?_; try simp only [go_sem]) | (refine awp_condP rfl ?_; try simp only [go_sem]) | (refine BrP.mk (fun h => ?_) (fun h => ?_) <;> try simp (dsimp := false) (disch := omega) only [wrap64]) | (refine Br.mk (fun h => ?_) (fun h => ?_) <;> try simp (dsimp := false) (disch := omega) only [wrap64]) | refine Ob.mk (by first | omega | (intro _ _; rfl) | trivial | (intros; trivial) | assumption | (intro i hi; have h0 : i = 0 := (by omega); subst h0; first | rfl | trivial) | (intro i hi; have h0 : i = 0 ∨ i = 1 := (by omega); rcases h0 with rfl | rfl <;> rfl) | (intro i hi; have h0 : i = 0 ∨ i = 1 ∨ i = 2 := (by omega); rcases h0 with rfl | rfl | rfl <;> rfl)) ?_ | apply_assumption -exfalso -symm)
  all_goals (first | (show endQ _ _ _ _ _ _ _; (repeat (rename (∀ (A : Fr) (H : Hp), AWP _ _ _ _ A H → _) => hK; clear hK)); (repeat (rename (Fr → Hp → Prop) => K; clear K))) | (show Exists _; (repeat (rename (∀ (A : Fr) (H : Hp), AWP _ _ _ _ A H → _) => hK; clear hK)); (repeat (rename (Fr → Hp → Prop) => K; clear K))) | skip)
  refine awp_loop (ι := Nat) (fun k => [(4, .v (.int .i64 (k))), (3, .own 7 0 1 xss.length), (0, .list false 1 (xss).length (cM ints [] (xss)))]) (fun k => Hp.emp.upd 7 (.cells xss.length (fillII xss k))) (fun k => k ≤ xss.length) (fun k => xss.length - k) 0 ?_ (Sub.toL (by simp only [go_sem] <;> first | trivial | (simp only [Option.some.injEq, AV.v.injEq, AV.own.injEq, AV.list.injEq, Value.int.injEq, Value.bool.injEq, true_and, and_true]; first | omega | (simp [fillII_zero xss]; done)) | (simp [fillII_zero xss]; done) | (simp [fillII_zero xss]; omega)) (by (repeat' (first | exact Hp.le_emp _ | exact Hp.le_refl _ | refine Hp.le_upd ?_ ?_)); all_goals (first | rfl | (simp only [go_sem]; first | rfl | (refine cellsE ?_ ?_ <;> (simp [fillII_zero xss])) | (simp [fillII_zero xss]))))) ?_
  · exact Nat.zero_le _
  intro k hk
  repeat' (first | refine awp_seqK fun K hK => ?_ | (refine awp_regionK 2077 rfl ?_; simp only [List.map_cons, List.map_nil]; simp (maxSteps := 1000000) (dsimp := false) (implicitDefEqProofs := false) (disch := omega) only [wrap64, go_sem, fillII_step, scF_fillII]) | (refine awp_regionQK 2077 (by kernel_rfl) (by kernel_rfl) (by kernel_rfl) ?_; simp only [List.map_cons, List.map_nil]; simp (maxSteps := 1000000) (dsimp := false) (implicitDefEqProofs := false) (disch := omega) only [wrap64, go_sem, fillII_step, scF_fillII]) | refine awp_block ?_ | (refine awp_skip ?_; simp only [go_sem, fillII_step, scF_fillII]) | (refine awp_exit ?_; simp only [go_sem, fillII_step, scF_fillII]) | (refine awp_ret ?_; try simp only [go_sem, fillII_step, scF_fillII]) | (refine awp_condP rfl ?_; try simp only [go_sem, fillII_step, scF_fillII]) | (refine BrP.mk (fun h => ?_) (fun h => ?_) <;> try simp (dsimp := false) (disch := omega) only [wrap64]) | (refine Br.mk (fun h => ?_) (fun h => ?_) <;> try simp (dsimp := false) (disch := omega) only [wrap64]) | refine Ob.mk (by first | omega | (intro _ _; rfl) | trivial | (intros; trivial) | assumption | (intro i hi; have h0 : i = 0 := (by omega); subst h0; first | rfl | trivial) | (intro i hi; have h0 : i = 0 ∨ i = 1 := (by omega); rcases h0 with rfl | rfl <;> rfl) | (intro i hi; have h0 : i = 0 ∨ i = 1 ∨ i = 2 := (by omega); rcases h0 with rfl | rfl | rfl <;> rfl)) ?_ | ((first | ((first | refine atF (f := 26) ?_ | refine atQ (f := 26) ?_); (first | (refine cR (hac := toInt64S_frz _ (hb _)) (hK := ?_)) | (refine cQR (hac := toInt64S_frz _ (hb _)) (hK := ?_))))); simp (maxSteps := 1000000) (dsimp := false) (implicitDefEqProofs := false) (disch := omega) only [wrap64, go_sem, fillII_step, scF_fillII]) | apply_assumption -exfalso -symm)
  all_goals (first | (show endQ _ _ _ _ _ _ _; (repeat (rename (∀ (A : Fr) (H : Hp), AWP _ _ _ _ A H → _) => hK; clear hK)); (repeat (rename (Fr → Hp → Prop) => K; clear K))) | (show Exists _; (repeat (rename (∀ (A : Fr) (H : Hp), AWP _ _ _ _ A H → _) => hK; clear hK)); (repeat (rename (Fr → Hp → Prop) => K; clear K))) | skip)
  · refine ⟨k + 1, ?_, ?_, Sub.toL (by simp only [go_sem] <;> first | trivial | (simp only [Option.some.injEq, AV.v.injEq, AV.own.injEq, AV.list.injEq, Value.int.injEq, Value.bool.injEq, true_and, and_true]; first | omega | (simp; done)) | (simp; done) | (simp; omega)) (by (repeat' (first | exact Hp.le_emp _ | exact Hp.le_refl _ | refine Hp.le_upd ?_ ?_)); all_goals (first | rfl | (simp only [go_sem]; first | rfl | (refine cellsE ?_ ?_ <;> (simp)) | (simp))))⟩
    all_goals omega
  · have e : k = xss.length := by omega
    subst e
    refine end_retF rfl rfl ?_
    refine .own rfl trivial (by omega) (fun _ _ => by first | exact trivial | exact fun _ _ => trivial) (fun i hi => ?_)
    simp only [fillII, Nat.zero_add]
    rw [if_pos (by omega)]
    exact .refl _

theorem toPuzzle_frz (p : Pz) (hx : p.m.length ≤ 1048576) (hb : ∀ j, (p.m.getD j []).length ≤ 1048576) : AC Try.prog 25 [pz p] Hp.emp (fun _ => false) (retV (pz p)) := by
  refine ac_of_awp (N := ⟨_, fun _ => false, fun _ _ => rfl⟩) Try.func25 rfl (by kernel_rfl) Try.ntmps25 (by simp) ?_
  simp only [argsFr, List.zipIdx_cons, List.zipIdx_nil, go_sem]
  repeat' (first | refine awp_seqK fun K hK => ?_ | (refine awp_regionK 15 rfl ?_; simp only [List.map_cons, List.map_nil]; simp (maxSteps := 1000000) (dsimp := false) (implicitDefEqProofs := false) (disch := omega) only [wrap64, go_sem]) | (refine awp_regionQK 15 (by kernel_rfl) (by kernel_rfl) (by kernel_rfl) ?_; simp only [List.map_cons, List.map_nil]; simp (maxSteps := 1000000) (dsimp := false) (implicitDefEqProofs := false) (disch := omega) only [wrap64, go_sem]) | refine awp_block ?_ | (refine awp_skip ?_; simp only [go_sem]) | (refine awp_exit ?_; simp only [go_sem]) | (refine awp_ret ?_; try simp only [go_sem]) | (refine awp_condP rfl ?_; try simp only [go_sem]) | (refine BrP.mk (fun h => ?_) (fun h => ?_) <;> try simp (dsimp := false) (disch := omega) only [wrap64]) | (refine Br.mk (fun h => ?_) (fun h => ?_) <;> try simp (dsimp := false) (disch := omega) only [wrap64]) | refine Ob.mk (by first | omega | (intro _ _; rfl) | trivial | (intros; trivial) | assumption | (intro i hi; have h0 : i = 0 := (by omega); subst h0; first | rfl | trivial) | (intro i hi; have h0 : i = 0 ∨ i = 1 := (by omega); rcases h0 with rfl | rfl <;> rfl) | (intro i hi; have h0 : i = 0 ∨ i = 1 ∨ i = 2 := (by omega); rcases h0 with rfl | rfl | rfl <;> rfl)) ?_ | ((first | ((first | refine atF (f := 78) ?_ | refine atQ (f := 78) ?_); (first | (refine cR (hac := toInt64SS_frz _ hx hb) (hK := ?_)) | (refine cQR (hac := toInt64SS_frz _ hx hb) (hK := ?_))))); simp (maxSteps := 1000000) (dsimp := false) (implicitDefEqProofs := false) (disch := omega) only [wrap64, go_sem]) | apply_assumption -exfalso -symm)
  all_goals (first | (show endQ _ _ _ _ _ _ _; (repeat (rename (∀ (A : Fr) (H : Hp), AWP _ _ _ _ A H → _) => hK; clear hK)); (repeat (rename (Fr → Hp → Prop) => K; clear K))) | (show Exists _; (repeat (rename (∀ (A : Fr) (H : Hp), AWP _ _ _ _ A H → _) => hK; clear hK)); (repeat (rename (Fr → Hp → Prop) => K; clear K))) | skip)
  refine end_retC rfl rfl (by simp only [go_sem]; rfl) rfl (by decide) (fun i hi => ?_) (fun i hi => ?_)
  · have h0 : i = 0 ∨ i = 1 ∨ i = 2 := by omega
    rcases h0 with rfl | rfl | rfl <;> first | exact trivial | exact fun _ _ => trivial
  · have h0 : i = 0 ∨ i = 1 ∨ i = 2 := by omega
    rcases h0 with rfl | rfl | rfl <;> exact .refl _

theorem eq_of_getDD {xs ys : List (List Int)} (hl : xs.length = ys.length) (h : ∀ j, j < xs.length → xs.getD j [] = ys.getD j []) : xs = ys := by
  refine List.ext_getElem hl fun i h1 h2 => ?_
  have := h i h1
  simpa [h1, h2] using this

theorem eqInt64SS_ok (xs ys : List (List Int)) (hx : xs.length ≤ 1048576) (hb : ∀ j, (xs.getD j []).length ≤ 1048576) : AC Try.prog 41 [intss xs, intss ys] Hp.emp (fun _ => false) (retV (.v (.bool (decide (xs = ys))))) := by
  refine ac_of_awp (N := ⟨_, fun _ => false, fun _ _ => rfl⟩) Try.func41 rfl (by kernel_rfl) Try.ntmps41 (by simp) ?_
  simp only [argsFr, List.zipIdx_cons, List.zipIdx_nil, go_sem]
  repeat' (first | refine awp_seqK fun K hK => ?_ | (refine awp_regionK 67126323 rfl ?_; simp only [List.map_cons, List.map_nil]; simp (maxSteps := 1000000) (dsimp := false) (implicitDefEqProofs := false) (disch := omega) only [wrap64, go_sem]) | (refine awp_regionQK 67126323 (by kernel_rfl) (by kernel_rfl) (by kernel_rfl) ?_; simp only [List.map_cons, List.map_nil]; simp (maxSteps := 1000000) (dsimp := false) (implicitDefEqProofs := false) (disch := omega) only [wrap64, go_sem]) | refine awp_block ?_ | (refine awp_skip ?_; simp only [go_sem]) | (refine awp_exit ?_; simp only [go_sem]) | (refine awp_ret ?_; try simp only [go_sem]) | (refine awp_condP rfl ?_; try simp only [go_sem]) | (refine BrP.mk (fun h => ?_) (fun h => ?_) <;> try simp (dsimp := false) (disch := omega) only [wrap64]) | (refine Br.mk (fun h => ?_) (fun h => ?_) <;> try simp (dsimp := false) (disch := omega) only [wrap64]) | refine Ob.mk (by first | omega | (intro _ _; rfl) | trivial | (intros; trivial) | assumption | (intro i hi; have h0 : i = 0 := (by omega); subst h0; first | rfl | trivial) | (intro i hi; have h0 : i = 0 ∨ i = 1 := (by omega); rcases h0 with rfl | rfl <;> rfl) | (intro i hi; have h0 : i = 0 ∨ i = 1 ∨ i = 2 := (by omega); rcases h0 with rfl | rfl | rfl <;> rfl)) ?_ | apply_assumption -exfalso -symm)
  all_goals (first | (show endQ _ _ _ _ _ _ _; (repeat (rename (∀ (A : Fr) (H : Hp), AWP _ _ _ _ A H → _) => hK; clear hK)); (repeat (rename (Fr → Hp → Prop) => K; clear K))) | (show Exists _; (repeat (rename (∀ (A : Fr) (H : Hp), AWP _ _ _ _ A H → _) => hK; clear hK)); (repeat (rename (Fr → Hp → Prop) => K; clear K))) | skip)
  · have hl : xs.length = ys.length := by omega
    refine awp_loop (ι := Nat) (fun k => [(5, .v (.int .i64 (k))), (0, .list false 1 (xs).length (cM ints [] (xs))), (1, .list false 1 (ys).length (cM ints [] (ys)))]) (fun k => Hp.emp) (fun k => k ≤ xs.length ∧ ∀ j, j < k → xs.getD j [] = ys.getD j []) (fun k => xs.length - k) 0 ?_ (Sub.toL (by simp only [go_sem] <;> first | trivial | (simp only [Option.some.injEq, AV.v.injEq, AV.own.injEq, AV.list.injEq, Value.int.injEq, Value.bool.injEq, true_and, and_true]; first | omega | (simp; done)) | (simp; done) | (simp; omega)) (by (repeat' (first | exact Hp.le_emp _ | exact Hp.le_refl _ | refine Hp.le_upd ?_ ?_)); all_goals (first | rfl | (simp only [go_sem]; first | rfl | (refine cellsE ?_ ?_ <;> (simp)) | (simp))))) ?_
    · exact ⟨Nat.zero_le _, fun j h => absurd h (Nat.not_lt_zero _)⟩
    intro k hk
    repeat' (first | refine awp_seqK fun K hK => ?_ | (refine awp_regionK 67126323 rfl ?_; simp only [List.map_cons, List.map_nil]; simp (maxSteps := 1000000) (dsimp := false) (implicitDefEqProofs := false) (disch := omega) only [wrap64, go_sem]) | (refine awp_regionQK 67126323 (by kernel_rfl) (by kernel_rfl) (by kernel_rfl) ?_; simp only [List.map_cons, List.map_nil]; simp (maxSteps := 1000000) (dsimp := false) (implicitDefEqProofs := false) (disch := omega) only [wrap64, go_sem]) | refine awp_block ?_ | (refine awp_skip ?_; simp only [go_sem]) | (refine awp_exit ?_; simp only [go_sem]) | (refine awp_ret ?_; try simp only [go_sem]) | (refine awp_condP rfl ?_; try simp only [go_sem]) | (refine BrP.mk (fun h => ?_) (fun h => ?_) <;> try simp (dsimp := false) (disch := omega) only [wrap64]) | (refine Br.mk (fun h => ?_) (fun h => ?_) <;> try simp (dsimp := false) (disch := omega) only [wrap64]) | refine Ob.mk (by first | omega | (intro _ _; rfl) | trivial | (intros; trivial) | assumption | (intro i hi; have h0 : i = 0 := (by omega); subst h0; first | rfl | trivial) | (intro i hi; have h0 : i = 0 ∨ i = 1 := (by omega); rcases h0 with rfl | rfl <;> rfl) | (intro i hi; have h0 : i = 0 ∨ i = 1 ∨ i = 2 := (by omega); rcases h0 with rfl | rfl | rfl <;> rfl)) ?_ | ((first | ((first | refine atF (f := 28) ?_ | refine atQ (f := 28) ?_); (first | (refine cV (hac := eqInt64S_ok _ _ (hb _)) (hK := ?_)) | (refine cQV (hac := eqInt64S_ok _ _ (hb _)) (hK := ?_))))); simp (maxSteps := 1000000) (dsimp := false) (implicitDefEqProofs := false) (disch := omega) only [wrap64, go_sem]) | apply_assumption -exfalso -symm)
    all_goals (first | (show endQ _ _ _ _ _ _ _; (repeat (rename (∀ (A : Fr) (H : Hp), AWP _ _ _ _ A H → _) => hK; clear hK)); (repeat (rename (Fr → Hp → Prop) => K; clear K))) | (show Exists _; (repeat (rename (∀ (A : Fr) (H : Hp), AWP _ _ _ _ A H → _) => hK; clear hK)); (repeat (rename (Fr → Hp → Prop) => K; clear K))) | skip)
    · refine ⟨k + 1, ?_, ?_, Sub.toL (by simp only [go_sem] <;> first | trivial | (simp only [Option.some.injEq, AV.v.injEq, AV.own.injEq, AV.list.injEq, Value.int.injEq, Value.bool.injEq, true_and, and_true]; first | omega | (simp; done)) | (simp; done) | (simp; omega)) (by (repeat' (first | exact Hp.le_emp _ | exact Hp.le_refl _ | refine Hp.le_upd ?_ ?_)); all_goals (first | rfl | (simp only [go_sem]; first | rfl | (refine cellsE ?_ ?_ <;> (simp)) | (simp))))⟩
      · refine ⟨by omega, fun j hj => ?_⟩
        by_cases h' : j = k
        · subst h'; assumption
        · exact hk.2 j (by omega)
      · omega
    · refine end_retB rfl rfl ?_
      simp only [Bool.false_eq_true, false_iff]
      rintro rfl
      exact absurd rfl ‹¬_›
    · refine end_retB rfl rfl ?_
      simp only [true_iff]
      exact eq_of_getDD hl fun j hj => hk.2 j (by omega)
  · exact end_retB rfl rfl (by simp; rintro rfl; simp at h)

theorem eqPuzzle_ok (p q : Pz) (hx : p.m.length ≤ 1048576) (hb : ∀ j, (p.m.getD j []).length ≤ 1048576) : AC Try.prog 29 [pz p, pz q] Hp.emp (fun _ => false) (retV (.v (.bool (decide (p.n = q.n ∧ p.s.toList = q.s.toList ∧ p.m = q.m))))) := by
  refine ac_of_awp (N := ⟨_, fun _ => false, fun _ _ => rfl⟩) Try.func29 rfl (by kernel_rfl) Try.ntmps29 (by simp) ?_
  simp only [argsFr, List.zipIdx_cons, List.zipIdx_nil, go_sem]
  repeat' (first | refine awp_seqK fun K hK => ?_ | (refine awp_regionK 1065503 rfl ?_; simp only [List.map_cons, List.map_nil]; simp (maxSteps := 1000000) (dsimp := false) (implicitDefEqProofs := false) (disch := omega) only [wrap64, go_sem]) | (refine awp_regionQK 1065503 (by kernel_rfl) (by kernel_rfl) (by kernel_rfl) ?_; simp only [List.map_cons, List.map_nil]; simp (maxSteps := 1000000) (dsimp := false) (implicitDefEqProofs := false) (disch := omega) only [wrap64, go_sem]) | refine awp_block ?_ | (refine awp_skip ?_; simp only [go_sem]) | (refine awp_exit ?_; simp only [go_sem]) | (refine awp_ret ?_; try simp only [go_sem]) | (refine awp_condP rfl ?_; try simp only [go_sem]) | (refine BrP.mk (fun h => ?_) (fun h => ?_) <;> try simp (dsimp := false) (disch := omega) only [wrap64]) | (refine Br.mk (fun h => ?_) (fun h => ?_) <;> try simp (dsimp := false) (disch := omega) only [wrap64]) | refine Ob.mk (by first | omega | (intro _ _; rfl) | trivial | (intros; trivial) | assumption | (intro i hi; have h0 : i = 0 := (by omega); subst h0; first | rfl | trivial) | (intro i hi; have h0 : i = 0 ∨ i = 1 := (by omega); rcases h0 with rfl | rfl <;> rfl) | (intro i hi; have h0 : i = 0 ∨ i = 1 ∨ i = 2 := (by omega); rcases h0 with rfl | rfl | rfl <;> rfl)) ?_ | ((first | ((first | refine atF (f := 41) ?_ | refine atQ (f := 41) ?_); (first | (refine cV (hac := eqInt64SS_ok _ _ hx hb) (hK := ?_)) | (refine cQV (hac := eqInt64SS_ok _ _ hx hb) (hK := ?_))))); simp (maxSteps := 1000000) (dsimp := false) (implicitDefEqProofs := false) (disch := omega) only [wrap64, go_sem]) | apply_assumption -exfalso -symm)
  all_goals (first | (show endQ _ _ _ _ _ _ _; (repeat (rename (∀ (A : Fr) (H : Hp), AWP _ _ _ _ A H → _) => hK; clear hK)); (repeat (rename (Fr → Hp → Prop) => K; clear K))) | (show Exists _; (repeat (rename (∀ (A : Fr) (H : Hp), AWP _ _ _ _ A H → _) => hK; clear hK)); (repeat (rename (Fr → Hp → Prop) => K; clear K))) | skip)
  all_goals (refine end_retB rfl rfl ?_; simp only [*, Bool.false_eq_true, true_iff, false_iff, and_self, not_and, not_true, imp_false, false_and, and_false, not_false_eq_true, implies_true])
end Go.Proofs.Ytdllbnchcjgcdaa
end
section
namespace Go.Proofs.Ytdllbnchcjgcdaa
open Go.Av
set_option linter.unusedSimpArgs false
set_option linter.unusedVariables false
attribute [local irreducible] AWP CallG Ob Br BrP Go.Av.Sub endQ AOps OpV AC thenA blkA opsVC opVC withA withArgs opsQ opQ CallQ withA2 withArgs2

theorem mem_getD {xs : List Int} {x : Int} : x ∈ xs ↔ ∃ j, j < xs.length ∧ xs.getD j 0 = x := by
  constructor
  · intro h
    obtain ⟨i, hi, e⟩ := List.getElem_of_mem h
    exact ⟨i, hi, by simp [hi, e]⟩
  · rintro ⟨j, hj, e⟩
    have : xs.getD j 0 = xs[j] := by simp [hj]
    rw [← e, this]; exact List.getElem_mem hj

theorem containsInt_ok (xs : List Int) (x : Int) (hx : xs.length ≤ 1048576) : AC Try.prog 160 [ints xs, .v (.int .i64 (x))] Hp.emp (fun _ => false) (retV (.v (.bool (decide (x ∈ xs))))) := by
  refine ac_of_awp (N := ⟨_, fun _ => false, fun _ _ => rfl⟩) Try.func160 rfl (by kernel_rfl) Try.ntmps160 (by simp) ?_
  simp only [argsFr, List.zipIdx_cons, List.zipIdx_nil, go_sem]
  repeat' (first | refine awp_seqK fun K hK => ?_ | (refine awp_regionK 131635 rfl ?_; simp only [List.map_cons, List.map_nil]; simp (maxSteps := 1000000) (dsimp := false) (implicitDefEqProofs := false) (disch := omega) only [wrap64, go_sem]) | (refine awp_regionQK 131635 (by kernel_rfl) (by kernel_rfl) (by kernel_rfl) ?_; simp only [List.map_cons, List.map_nil]; simp (maxSteps := 1000000) (dsimp := false) (implicitDefEqProofs := false) (disch := omega) only [wrap64, go_sem]) | refine awp_block ?_ | (refine awp_skip ?_; simp only [go_sem]) | (refine awp_exit ?_; simp only [go_sem]) | (refine awp_ret ?_; try simp only [go_sem]) | (refine awp_condP rfl ?_; try simp only [go_sem]) | (refine BrP.mk (fun h => ?_) (fun h => ?_) <;> try simp (dsimp := false) (disch := omega) only [wrap64]) | (refine Br.mk (fun h => ?_) (fun h => ?_) <;> try simp (dsimp := false) (disch := omega) only [wrap64]) | refine Ob.mk (by first | omega | (intro _ _; rfl) | trivial | (intros; trivial) | assumption | (intro i hi; have h0 : i = 0 := (by omega); subst h0; first | rfl | trivial) | (intro i hi; have h0 : i = 0 ∨ i = 1 := (by omega); rcases h0 with rfl | rfl <;> rfl) | (intro i hi; have h0 : i = 0 ∨ i = 1 ∨ i = 2 := (by omega); rcases h0 with rfl | rfl | rfl <;> rfl)) ?_ | apply_assumption -exfalso -symm)
  all_goals (first | (show endQ _ _ _ _ _ _ _; (repeat (rename (∀ (A : Fr) (H : Hp), AWP _ _ _ _ A H → _) => hK; clear hK)); (repeat (rename (Fr → Hp → Prop) => K; clear K))) | (show Exists _; (repeat (rename (∀ (A : Fr) (H : Hp), AWP _ _ _ _ A H → _) => hK; clear hK)); (repeat (rename (Fr → Hp → Prop) => K; clear K))) | skip)
  refine awp_loop (ι := Nat) (fun k => [(5, .v (.int .i64 (k))), (0, .list false 1 (xs).length (cM iv 0 (xs))), (1, .v (.int .i64 (x)))]) (fun k => Hp.emp) (fun k => k ≤ xs.length ∧ ∀ j, j < k → xs.getD j 0 ≠ x) (fun k => xs.length - k) 0 ?_ (Sub.toL (by simp only [go_sem] <;> first | trivial | (simp only [Option.some.injEq, AV.v.injEq, AV.own.injEq, AV.list.injEq, Value.int.injEq, Value.bool.injEq, true_and, and_true]; first | omega | (simp; done)) | (simp; done) | (simp; omega)) (by (repeat' (first | exact Hp.le_emp _ | exact Hp.le_refl _ | refine Hp.le_upd ?_ ?_)); all_goals (first | rfl | (simp only [go_sem]; first | rfl | (refine cellsE ?_ ?_ <;> (simp)) | (simp))))) ?_
  · exact ⟨Nat.zero_le _, fun j h => absurd h (Nat.not_lt_zero _)⟩
  intro k hk
  repeat' (first | refine awp_seqK fun K hK => ?_ | (refine awp_regionK 131635 rfl ?_; simp only [List.map_cons, List.map_nil]; simp (maxSteps := 1000000) (dsimp := false) (implicitDefEqProofs := false) (disch := omega) only [wrap64, go_sem]) | (refine awp_regionQK 131635 (by kernel_rfl) (by kernel_rfl) (by kernel_rfl) ?_; simp only [List.map_cons, List.map_nil]; simp (maxSteps := 1000000) (dsimp := false) (implicitDefEqProofs := false) (disch := omega) only [wrap64, go_sem]) | refine awp_block ?_ | (refine awp_skip ?_; simp only [go_sem]) | (refine awp_exit ?_; simp only [go_sem]) | (refine awp_ret ?_; try simp only [go_sem]) | (refine awp_condP rfl ?_; try simp only [go_sem]) | (refine BrP.mk (fun h => ?_) (fun h => ?_) <;> try simp (dsimp := false) (disch := omega) only [wrap64]) | (refine Br.mk (fun h => ?_) (fun h => ?_) <;> try simp (dsimp := false) (disch := omega) only [wrap64]) | refine Ob.mk (by first | omega | (intro _ _; rfl) | trivial | (intros; trivial) | assumption | (intro i hi; have h0 : i = 0 := (by omega); subst h0; first | rfl | trivial) | (intro i hi; have h0 : i = 0 ∨ i = 1 := (by omega); rcases h0 with rfl | rfl <;> rfl) | (intro i hi; have h0 : i = 0 ∨ i = 1 ∨ i = 2 := (by omega); rcases h0 with rfl | rfl | rfl <;> rfl)) ?_ | apply_assumption -exfalso -symm)
  all_goals (first | (show endQ _ _ _ _ _ _ _; (repeat (rename (∀ (A : Fr) (H : Hp), AWP _ _ _ _ A H → _) => hK; clear hK)); (repeat (rename (Fr → Hp → Prop) => K; clear K))) | (show Exists _; (repeat (rename (∀ (A : Fr) (H : Hp), AWP _ _ _ _ A H → _) => hK; clear hK)); (repeat (rename (Fr → Hp → Prop) => K; clear K))) | skip)
  · refine end_retB rfl rfl ?_
    simp only [true_iff]
    exact mem_getD.2 ⟨k, by omega, by assumption⟩
  · refine ⟨k + 1, ?_, ?_, Sub.toL (by simp only [go_sem] <;> first | trivial | (simp only [Option.some.injEq, AV.v.injEq, AV.own.injEq, AV.list.injEq, Value.int.injEq, Value.bool.injEq, true_and, and_true]; first | omega | (simp; done)) | (simp; done) | (simp; omega)) (by (repeat' (first | exact Hp.le_emp _ | exact Hp.le_refl _ | refine Hp.le_upd ?_ ?_)); all_goals (first | rfl | (simp only [go_sem]; first | rfl | (refine cellsE ?_ ?_ <;> (simp)) | (simp))))⟩
    · refine ⟨by omega, fun j hj => ?_⟩
      by_cases h' : j = k
      · subst h'; assumption
      · exact hk.2 j (by omega)
    · omega
  · refine end_retB rfl rfl ?_
    simp only [Bool.false_eq_true, false_iff]
    intro hm
    obtain ⟨j, hj, e⟩ := mem_getD.1 hm
    exact hk.2 j (by omega) e

def isPerm (p : List Int) : Prop := (1 ≤ p.length ∧ p.length ≤ 20) ∧ ∀ j, j < p.length → (0 ≤ p.getD j 0 ∧ p.getD j 0 ≤ (p.length : Int) - 1) ∧ p.getD j 0 ∉ p.take j
instance (p : List Int) : Decidable (isPerm p) := by unfold isPerm; infer_instance

theorem specIsPermutation_ok (p : List Int) : AC Try.prog 140 [ints p] Hp.emp (fun _ => false) (retV (.v (.bool (decide (isPerm p))))) := by
  refine ac_of_awp (N := ⟨_, fun _ => false, fun _ _ => rfl⟩) Try.func140 rfl (by kernel_rfl) Try.ntmps140 (by simp) ?_
  simp only [argsFr, List.zipIdx_cons, List.zipIdx_nil, go_sem]
  repeat' (first | refine awp_seqK fun K hK => ?_ | (refine awp_regionK 8589943325 rfl ?_; simp only [List.map_cons, List.map_nil]; simp (maxSteps := 1000000) (dsimp := false) (implicitDefEqProofs := false) (disch := omega) only [wrap64, go_sem]) | (refine awp_regionQK 8589943325 (by kernel_rfl) (by kernel_rfl) (by kernel_rfl) ?_; simp only [List.map_cons, List.map_nil]; simp (maxSteps := 1000000) (dsimp := false) (implicitDefEqProofs := false) (disch := omega) only [wrap64, go_sem]) | refine awp_block ?_ | (refine awp_skip ?_; simp only [go_sem]) | (refine awp_exit ?_; simp only [go_sem]) | (refine awp_ret ?_; try simp only [go_sem]) | (refine awp_condP rfl ?_; try simp only [go_sem]) | (refine BrP.mk (fun h => ?_) (fun h => ?_) <;> try simp (dsimp := false) (disch := omega) only [wrap64]) | (refine Br.mk (fun h => ?_) (fun h => ?_) <;> try simp (dsimp := false) (disch := omega) only [wrap64]) | refine Ob.mk (by first | omega | (intro _ _; rfl) | trivial | (intros; trivial) | assumption | (intro i hi; have h0 : i = 0 := (by omega); subst h0; first | rfl | trivial) | (intro i hi; have h0 : i = 0 ∨ i = 1 := (by omega); rcases h0 with rfl | rfl <;> rfl) | (intro i hi; have h0 : i = 0 ∨ i = 1 ∨ i = 2 := (by omega); rcases h0 with rfl | rfl | rfl <;> rfl)) ?_ | ((first | ((first | refine atF (f := 108) ?_ | refine atQ (f := 108) ?_); (first | (refine cV (hac := inRange_ok _ _ _) (hK := ?_)) | (refine cQV (hac := inRange_ok _ _ _) (hK := ?_))))); simp (maxSteps := 1000000) (dsimp := false) (implicitDefEqProofs := false) (disch := omega) only [wrap64, go_sem]) | apply_assumption -exfalso -symm)
  all_goals (first | (show endQ _ _ _ _ _ _ _; (repeat (rename (∀ (A : Fr) (H : Hp), AWP _ _ _ _ A H → _) => hK; clear hK)); (repeat (rename (Fr → Hp → Prop) => K; clear K))) | (show Exists _; (repeat (rename (∀ (A : Fr) (H : Hp), AWP _ _ _ _ A H → _) => hK; clear hK)); (repeat (rename (Fr → Hp → Prop) => K; clear K))) | skip)
  · refine awp_loop (ι := Nat) (fun k => [(4, .v (.int .i64 (k))), (0, .list false 1 (p).length (cM iv 0 (p))), (3, .v (.int .i64 (p.length)))]) (fun k => Hp.emp) (fun k => k ≤ p.length ∧ ∀ j, j < k → (0 ≤ p.getD j 0 ∧ p.getD j 0 ≤ (p.length : Int) - 1) ∧ p.getD j 0 ∉ p.take j) (fun k => p.length - k) 0 ?_ (Sub.toL (by simp only [go_sem] <;> first | trivial | (simp only [Option.some.injEq, AV.v.injEq, AV.own.injEq, AV.list.injEq, Value.int.injEq, Value.bool.injEq, true_and, and_true]; first | omega | (simp; done)) | (simp; done) | (simp; omega)) (by (repeat' (first | exact Hp.le_emp _ | exact Hp.le_refl _ | refine Hp.le_upd ?_ ?_)); all_goals (first | rfl | (simp only [go_sem]; first | rfl | (refine cellsE ?_ ?_ <;> (simp)) | (simp))))) ?_
    · exact ⟨Nat.zero_le _, fun j h => absurd h (Nat.not_lt_zero _)⟩
    intro k hk
    repeat' (first | refine awp_seqK fun K hK => ?_ | (refine awp_regionK 8589943325 rfl ?_; simp only [List.map_cons, List.map_nil]; simp (maxSteps := 1000000) (dsimp := false) (implicitDefEqProofs := false) (disch := omega) only [wrap64, go_sem]) | (refine awp_regionQK 8589943325 (by kernel_rfl) (by kernel_rfl) (by kernel_rfl) ?_; simp only [List.map_cons, List.map_nil]; simp (maxSteps := 1000000) (dsimp := false) (implicitDefEqProofs := false) (disch := omega) only [wrap64, go_sem]) | refine awp_block ?_ | (refine awp_skip ?_; simp only [go_sem]) | (refine awp_exit ?_; simp only [go_sem]) | (refine awp_ret ?_; try simp only [go_sem]) | (refine awp_condP rfl ?_; try simp only [go_sem]) | (refine BrP.mk (fun h => ?_) (fun h => ?_) <;> try simp (dsimp := false) (disch := omega) only [wrap64]) | (refine Br.mk (fun h => ?_) (fun h => ?_) <;> try simp (dsimp := false) (disch := omega) only [wrap64]) | refine Ob.mk (by first | omega | (intro _ _; rfl) | trivial | (intros; trivial) | assumption | (intro i hi; have h0 : i = 0 := (by omega); subst h0; first | rfl | trivial) | (intro i hi; have h0 : i = 0 ∨ i = 1 := (by omega); rcases h0 with rfl | rfl <;> rfl) | (intro i hi; have h0 : i = 0 ∨ i = 1 ∨ i = 2 := (by omega); rcases h0 with rfl | rfl | rfl <;> rfl)) ?_ | ((first | ((first | refine atF (f := 108) ?_ | refine atQ (f := 108) ?_); (first | (refine cV (hac := inRange_ok _ _ _) (hK := ?_)) | (refine cQV (hac := inRange_ok _ _ _) (hK := ?_)))) | ((first | refine atF (f := 160) ?_ | refine atQ (f := 160) ?_); (first | (refine cV (hac := containsInt_ok (p.take k) _ (by simp; omega)) (hK := ?_)) | (refine cQV (hac := containsInt_ok (p.take k) _ (by simp; omega)) (hK := ?_))))); simp (maxSteps := 1000000) (dsimp := false) (implicitDefEqProofs := false) (disch := omega) only [wrap64, go_sem]) | apply_assumption -exfalso -symm)
    all_goals (first | (show endQ _ _ _ _ _ _ _; (repeat (rename (∀ (A : Fr) (H : Hp), AWP _ _ _ _ A H → _) => hK; clear hK)); (repeat (rename (Fr → Hp → Prop) => K; clear K))) | (show Exists _; (repeat (rename (∀ (A : Fr) (H : Hp), AWP _ _ _ _ A H → _) => hK; clear hK)); (repeat (rename (Fr → Hp → Prop) => K; clear K))) | skip)
    · refine end_retB rfl rfl ?_
      simp only [Bool.false_eq_true, false_iff]
      intro h2; exact (h2.2 k (by omega)).2 ‹_›
    · refine ⟨k + 1, ?_, ?_, Sub.toL (by simp only [go_sem] <;> first | trivial | (simp only [Option.some.injEq, AV.v.injEq, AV.own.injEq, AV.list.injEq, Value.int.injEq, Value.bool.injEq, true_and, and_true]; first | omega | (simp; done)) | (simp; done) | (simp; omega)) (by (repeat' (first | exact Hp.le_emp _ | exact Hp.le_refl _ | refine Hp.le_upd ?_ ?_)); all_goals (first | rfl | (simp only [go_sem]; first | rfl | (refine cellsE ?_ ?_ <;> (simp)) | (simp))))⟩
      · refine ⟨by omega, fun j hj => ?_⟩
        by_cases h' : j = k
        · subst h'; exact ⟨by assumption, by assumption⟩
        · exact hk.2 j (by omega)
      · omega
    · refine end_retB rfl rfl ?_
      simp only [Bool.false_eq_true, false_iff]
      intro h2; exact ‹¬ (_ ∧ _)› (h2.2 k (by omega)).1
    · refine end_retB rfl rfl ?_
      simp only [true_iff]
      exact ⟨by omega, fun j hj => hk.2 j (by omega)⟩
  · refine end_retB rfl rfl ?_
    simp only [Bool.false_eq_true, false_iff]
    intro h2; have := h2.1; omega

def isGens (n : Int) (g : List (List Int)) : Prop := (1 ≤ n ∧ n ≤ 20) ∧ g.length ≤ 8 ∧ ∀ j, j < g.length → ((g.getD j []).length : Int) = n ∧ isPerm (g.getD j [])
instance (n : Int) (g : List (List Int)) : Decidable (isGens n g) := by unfold isGens; infer_instance

theorem specIsGeneratorSet_ok (n : Int) (g : List (List Int)) : AC Try.prog 131 [.v (.int .i64 (n)), intss g] Hp.emp (fun _ => false) (retV (.v (.bool (decide (isGens n g))))) := by
  refine ac_of_awp (N := ⟨_, fun _ => false, fun _ _ => rfl⟩) Try.func131 rfl (by kernel_rfl) Try.ntmps131 (by simp) ?_
  simp only [argsFr, List.zipIdx_cons, List.zipIdx_nil, go_sem]
  repeat' (first | refine awp_seqK fun K hK => ?_ | (refine awp_regionK 17180008499 rfl ?_; simp only [List.map_cons, List.map_nil]; simp (maxSteps := 1000000) (dsimp := false) (implicitDefEqProofs := false) (disch := omega) only [wrap64, go_sem]) | (refine awp_regionQK 17180008499 (by kernel_rfl) (by kernel_rfl) (by kernel_rfl) ?_; simp only [List.map_cons, List.map_nil]; simp (maxSteps := 1000000) (dsimp := false) (implicitDefEqProofs := false) (disch := omega) only [wrap64, go_sem]) | refine awp_block ?_ | (refine awp_skip ?_; simp only [go_sem]) | (refine awp_exit ?_; simp only [go_sem]) | (refine awp_ret ?_; try simp only [go_sem]) | (refine awp_condP rfl ?_; try simp only [go_sem]) | (refine BrP.mk (fun h => ?_) (fun h => ?_) <;> try simp (dsimp := false) (disch := omega) only [wrap64]) | (refine Br.mk (fun h => ?_) (fun h => ?_) <;> try simp (dsimp := false) (disch := omega) only [wrap64]) | refine Ob.mk (by first | omega | (intro _ _; rfl) | trivial | (intros; trivial) | assumption | (intro i hi; have h0 : i = 0 := (by omega); subst h0; first | rfl | trivial) | (intro i hi; have h0 : i = 0 ∨ i = 1 := (by omega); rcases h0 with rfl | rfl <;> rfl) | (intro i hi; have h0 : i = 0 ∨ i = 1 ∨ i = 2 := (by omega); rcases h0 with rfl | rfl | rfl <;> rfl)) ?_ | ((first | ((first | refine atF (f := 108) ?_ | refine atQ (f := 108) ?_); (first | (refine cV (hac := inRange_ok _ _ _) (hK := ?_)) | (refine cQV (hac := inRange_ok _ _ _) (hK := ?_))))); simp (maxSteps := 1000000) (dsimp := false) (implicitDefEqProofs := false) (disch := omega) only [wrap64, go_sem]) | apply_assumption -exfalso -symm)
  all_goals (first | (show endQ _ _ _ _ _ _ _; (repeat (rename (∀ (A : Fr) (H : Hp), AWP _ _ _ _ A H → _) => hK; clear hK)); (repeat (rename (Fr → Hp → Prop) => K; clear K))) | (show Exists _; (repeat (rename (∀ (A : Fr) (H : Hp), AWP _ _ _ _ A H → _) => hK; clear hK)); (repeat (rename (Fr → Hp → Prop) => K; clear K))) | skip)
  · refine end_retB rfl rfl ?_
    simp only [Bool.false_eq_true, false_iff]
    intro h2; have := h2.2.1; omega
  · refine awp_loop (ι := Nat) (fun k => [(5, .v (.int .i64 (k))), (0, .v (.int .i64 (n))), (1, .list false 1 (g).length (cM ints [] (g)))]) (fun k => Hp.emp) (fun k => k ≤ g.length ∧ ∀ j, j < k → ((g.getD j []).length : Int) = n ∧ isPerm (g.getD j [])) (fun k => g.length - k) 0 ?_ (Sub.toL (by simp only [go_sem] <;> first | trivial | (simp only [Option.some.injEq, AV.v.injEq, AV.own.injEq, AV.list.injEq, Value.int.injEq, Value.bool.injEq, true_and, and_true]; first | omega | (simp; done)) | (simp; done) | (simp; omega)) (by (repeat' (first | exact Hp.le_emp _ | exact Hp.le_refl _ | refine Hp.le_upd ?_ ?_)); all_goals (first | rfl | (simp only [go_sem]; first | rfl | (refine cellsE ?_ ?_ <;> (simp)) | (simp))))) ?_
    · exact ⟨Nat.zero_le _, fun j h => absurd h (Nat.not_lt_zero _)⟩
    intro k hk
    repeat' (first | refine awp_seqK fun K hK => ?_ | (refine awp_regionK 17180008499 rfl ?_; simp only [List.map_cons, List.map_nil]; simp (maxSteps := 1000000) (dsimp := false) (implicitDefEqProofs := false) (disch := omega) only [wrap64, go_sem]) | (refine awp_regionQK 17180008499 (by kernel_rfl) (by kernel_rfl) (by kernel_rfl) ?_; simp only [List.map_cons, List.map_nil]; simp (maxSteps := 1000000) (dsimp := false) (implicitDefEqProofs := false) (disch := omega) only [wrap64, go_sem]) | refine awp_block ?_ | (refine awp_skip ?_; simp only [go_sem]) | (refine awp_exit ?_; simp only [go_sem]) | (refine awp_ret ?_; try simp only [go_sem]) | (refine awp_condP rfl ?_; try simp only [go_sem]) | (refine BrP.mk (fun h => ?_) (fun h => ?_) <;> try simp (dsimp := false) (disch := omega) only [wrap64]) | (refine Br.mk (fun h => ?_) (fun h => ?_) <;> try simp (dsimp := false) (disch := omega) only [wrap64]) | refine Ob.mk (by first | omega | (intro _ _; rfl) | trivial | (intros; trivial) | assumption | (intro i hi; have h0 : i = 0 := (by omega); subst h0; first | rfl | trivial) | (intro i hi; have h0 : i = 0 ∨ i = 1 := (by omega); rcases h0 with rfl | rfl <;> rfl) | (intro i hi; have h0 : i = 0 ∨ i = 1 ∨ i = 2 := (by omega); rcases h0 with rfl | rfl | rfl <;> rfl)) ?_ | ((first | ((first | refine atF (f := 140) ?_ | refine atQ (f := 140) ?_); (first | (refine cV (hac := specIsPermutation_ok _) (hK := ?_)) | (refine cQV (hac := specIsPermutation_ok _) (hK := ?_))))); simp (maxSteps := 1000000) (dsimp := false) (implicitDefEqProofs := false) (disch := omega) only [wrap64, go_sem]) | apply_assumption -exfalso -symm)
    all_goals (first | (show endQ _ _ _ _ _ _ _; (repeat (rename (∀ (A : Fr) (H : Hp), AWP _ _ _ _ A H → _) => hK; clear hK)); (repeat (rename (Fr → Hp → Prop) => K; clear K))) | (show Exists _; (repeat (rename (∀ (A : Fr) (H : Hp), AWP _ _ _ _ A H → _) => hK; clear hK)); (repeat (rename (Fr → Hp → Prop) => K; clear K))) | skip)
    · refine ⟨k + 1, ?_, ?_, Sub.toL (by simp only [go_sem] <;> first | trivial | (simp only [Option.some.injEq, AV.v.injEq, AV.own.injEq, AV.list.injEq, Value.int.injEq, Value.bool.injEq, true_and, and_true]; first | omega | (simp; done)) | (simp; done) | (simp; omega)) (by (repeat' (first | exact Hp.le_emp _ | exact Hp.le_refl _ | refine Hp.le_upd ?_ ?_)); all_goals (first | rfl | (simp only [go_sem]; first | rfl | (refine cellsE ?_ ?_ <;> (simp)) | (simp))))⟩
      · refine ⟨by omega, fun j hj => ?_⟩
        by_cases h' : j = k
        · subst h'; exact ⟨by assumption, by assumption⟩
        · exact hk.2 j (by omega)
      · omega
    · refine end_retB rfl rfl ?_
      simp only [Bool.false_eq_true, false_iff]
      intro h2; exact ‹¬ isPerm _› (h2.2.2 k (by omega)).2
    · refine end_retB rfl rfl ?_
      simp only [Bool.false_eq_true, false_iff]
      intro h2; exact ‹¬ (_ = _)› (h2.2.2 k (by omega)).1
    · refine end_retB rfl rfl ?_
      simp only [true_iff]
      exact ⟨by omega, by omega, fun j hj => hk.2 j (by omega)⟩
  · refine end_retB rfl rfl ?_
    simp only [Bool.false_eq_true, false_iff]
    intro h2; have := h2.1; omega

/-- A letter of a text, as a number. -/
def bt (s : ByteArray) (i : Nat) : Int := ((s.data.toList.getD i 0).toNat : Int)
theorem bt_fold (s : ByteArray) (i : Nat) : ((s.data.toList.getD i 0).toNat : Int) = bt s i := rfl
theorem bt_range (s : ByteArray) (i : Nat) : 0 ≤ bt s i ∧ bt s i ≤ 255 := by
  unfold bt; have := (s.data.toList.getD i 0).toNat_lt; omega
theorem wrap_bt (s : ByteArray) (i : Nat) : IntKind.i64.wrap (bt s i) = bt s i := by
  have := bt_range s i; exact wrap64 (by omega)
def isName (s : ByteArray) (i : Nat) : Prop := (65 ≤ bt s i ∧ bt s i ≤ 90) ∧ ∀ k, k < i → bt s k ≠ bt s i
instance (s : ByteArray) (i : Nat) : Decidable (isName s i) := by unfold isName; infer_instance

theorem isMoveName_ok (s : ByteArray) (i : Nat) (hi : i < s.size) (hs : s.size ≤ 1048576) : AC Try.prog 132 [.v (.string (s)), .v (.int .i64 (i))] Hp.emp (fun _ => false) (retV (.v (.bool (decide (isName s i))))) := by
  refine ac_of_awp (N := ⟨_, fun _ => false, fun _ _ => rfl⟩) Try.func132 rfl (by kernel_rfl) Try.ntmps132 (by simp) ?_
  simp only [argsFr, List.zipIdx_cons, List.zipIdx_nil, go_sem]
  repeat' (first | refine awp_seqK fun K hK => ?_ | (refine awp_regionK 134512691 rfl ?_; simp only [List.map_cons, List.map_nil]; simp (maxSteps := 1000000) (dsimp := false) (implicitDefEqProofs := false) (disch := omega) only [wrap64, go_sem, bt_fold]) | (refine awp_regionQK 134512691 (by kernel_rfl) (by kernel_rfl) (by kernel_rfl) ?_; simp only [List.map_cons, List.map_nil]; simp (maxSteps := 1000000) (dsimp := false) (implicitDefEqProofs := false) (disch := omega) only [wrap64, go_sem, bt_fold]) | refine awp_block ?_ | (refine awp_skip ?_; simp only [go_sem, bt_fold]) | (refine awp_exit ?_; simp only [go_sem, bt_fold]) | (refine awp_ret ?_; try simp only [go_sem, bt_fold]) | (refine awp_condP rfl ?_; try simp only [go_sem, bt_fold]) | (refine BrP.mk (fun h => ?_) (fun h => ?_) <;> try simp (dsimp := false) (disch := omega) only [wrap64]) | (refine Br.mk (fun h => ?_) (fun h => ?_) <;> try simp (dsimp := false) (disch := omega) only [wrap64]) | refine Ob.mk (by first | omega | (intro _ _; rfl) | trivial | (intros; trivial) | assumption | (intro i hi; have h0 : i = 0 := (by omega); subst h0; first | rfl | trivial) | (intro i hi; have h0 : i = 0 ∨ i = 1 := (by omega); rcases h0 with rfl | rfl <;> rfl) | (intro i hi; have h0 : i = 0 ∨ i = 1 ∨ i = 2 := (by omega); rcases h0 with rfl | rfl | rfl <;> rfl)) ?_ | apply_assumption -exfalso -symm)
  all_goals (first | (show endQ _ _ _ _ _ _ _; (repeat (rename (∀ (A : Fr) (H : Hp), AWP _ _ _ _ A H → _) => hK; clear hK)); (repeat (rename (Fr → Hp → Prop) => K; clear K))) | (show Exists _; (repeat (rename (∀ (A : Fr) (H : Hp), AWP _ _ _ _ A H → _) => hK; clear hK)); (repeat (rename (Fr → Hp → Prop) => K; clear K))) | skip)
  rotate_right
  · refine awp_loop (ι := Nat) (fun k => [(5, .v (.int .i64 (k))), (0, .v (.string (s))), (1, .v (.int .i64 (i)))]) (fun k => Hp.emp) (fun k => k ≤ i ∧ ∀ j, j < k → bt s j ≠ bt s i) (fun k => i - k) 0 ?_ (Sub.toL (by simp only [go_sem] <;> first | trivial | (simp only [Option.some.injEq, AV.v.injEq, AV.own.injEq, AV.list.injEq, Value.int.injEq, Value.bool.injEq, true_and, and_true]; first | omega | (simp; done)) | (simp; done) | (simp; omega)) (by (repeat' (first | exact Hp.le_emp _ | exact Hp.le_refl _ | refine Hp.le_upd ?_ ?_)); all_goals (first | rfl | (simp only [go_sem]; first | rfl | (refine cellsE ?_ ?_ <;> (simp)) | (simp))))) ?_
    · exact ⟨Nat.zero_le _, fun j h => absurd h (Nat.not_lt_zero _)⟩
    intro k hk
    repeat' (first | refine awp_seqK fun K hK => ?_ | (refine awp_regionK 134512691 rfl ?_; simp only [List.map_cons, List.map_nil]; simp (maxSteps := 1000000) (dsimp := false) (implicitDefEqProofs := false) (disch := omega) only [wrap64, go_sem, bt_fold]) | (refine awp_regionQK 134512691 (by kernel_rfl) (by kernel_rfl) (by kernel_rfl) ?_; simp only [List.map_cons, List.map_nil]; simp (maxSteps := 1000000) (dsimp := false) (implicitDefEqProofs := false) (disch := omega) only [wrap64, go_sem, bt_fold]) | refine awp_block ?_ | (refine awp_skip ?_; simp only [go_sem, bt_fold]) | (refine awp_exit ?_; simp only [go_sem, bt_fold]) | (refine awp_ret ?_; try simp only [go_sem, bt_fold]) | (refine awp_condP rfl ?_; try simp only [go_sem, bt_fold]) | (refine BrP.mk (fun h => ?_) (fun h => ?_) <;> try simp (dsimp := false) (disch := omega) only [wrap64]) | (refine Br.mk (fun h => ?_) (fun h => ?_) <;> try simp (dsimp := false) (disch := omega) only [wrap64]) | refine Ob.mk (by first | omega | (intro _ _; rfl) | trivial | (intros; trivial) | assumption | (intro i hi; have h0 : i = 0 := (by omega); subst h0; first | rfl | trivial) | (intro i hi; have h0 : i = 0 ∨ i = 1 := (by omega); rcases h0 with rfl | rfl <;> rfl) | (intro i hi; have h0 : i = 0 ∨ i = 1 ∨ i = 2 := (by omega); rcases h0 with rfl | rfl | rfl <;> rfl)) ?_ | apply_assumption -exfalso -symm)
    all_goals (first | (show endQ _ _ _ _ _ _ _; (repeat (rename (∀ (A : Fr) (H : Hp), AWP _ _ _ _ A H → _) => hK; clear hK)); (repeat (rename (Fr → Hp → Prop) => K; clear K))) | (show Exists _; (repeat (rename (∀ (A : Fr) (H : Hp), AWP _ _ _ _ A H → _) => hK; clear hK)); (repeat (rename (Fr → Hp → Prop) => K; clear K))) | skip)
    · refine end_retB rfl rfl ?_
      simp only [Bool.false_eq_true, false_iff]
      intro h2; exact h2.2 k (by omega) (by assumption)
    · refine ⟨k + 1, ?_, ?_, Sub.toL (by simp only [go_sem] <;> first | trivial | (simp only [Option.some.injEq, AV.v.injEq, AV.own.injEq, AV.list.injEq, Value.int.injEq, Value.bool.injEq, true_and, and_true]; first | omega | (simp; done)) | (simp; done) | (simp; omega)) (by (repeat' (first | exact Hp.le_emp _ | exact Hp.le_refl _ | refine Hp.le_upd ?_ ?_)); all_goals (first | rfl | (simp only [go_sem]; first | rfl | (refine cellsE ?_ ?_ <;> (simp)) | (simp))))⟩
      · refine ⟨by omega, fun j hj => ?_⟩
        by_cases h' : j = k
        · subst h'; assumption
        · exact hk.2 j (by omega)
      · omega
    · refine end_retB rfl rfl ?_
      simp only [true_iff]
      exact ⟨by omega, fun j hj => hk.2 j (by omega)⟩
  all_goals (refine end_retB rfl rfl ?_; simp only [Bool.false_eq_true, false_iff, isName]; omega)

def isPz (p : Pz) : Prop := isGens p.n p.m ∧ p.m.length ≠ 0 ∧ p.s.size = p.m.length ∧ ∀ i, i < p.s.size → isName p.s i
instance (p : Pz) : Decidable (isPz p) := by unfold isPz; infer_instance

theorem specIsValidPuzzle_ok (p : Pz) : AC Try.prog 83 [pz p] Hp.emp (fun _ => false) (retV (.v (.bool (decide (isPz p))))) := by
  refine ac_of_awp (N := ⟨_, fun _ => false, fun _ _ => rfl⟩) Try.func83 rfl (by kernel_rfl) Try.ntmps83 (by simp) ?_
  simp only [argsFr, List.zipIdx_cons, List.zipIdx_nil, go_sem]
  repeat' (first | refine awp_seqK fun K hK => ?_ | (refine awp_regionK 69273124879 rfl ?_; simp only [List.map_cons, List.map_nil]; simp (maxSteps := 1000000) (dsimp := false) (implicitDefEqProofs := false) (disch := omega) only [wrap64, go_sem]) | (refine awp_regionQK 69273124879 (by kernel_rfl) (by kernel_rfl) (by kernel_rfl) ?_; simp only [List.map_cons, List.map_nil]; simp (maxSteps := 1000000) (dsimp := false) (implicitDefEqProofs := false) (disch := omega) only [wrap64, go_sem]) | refine awp_block ?_ | (refine awp_skip ?_; simp only [go_sem]) | (refine awp_exit ?_; simp only [go_sem]) | (refine awp_ret ?_; try simp only [go_sem]) | (refine awp_condP rfl ?_; try simp only [go_sem]) | (refine BrP.mk (fun h => ?_) (fun h => ?_) <;> try simp (dsimp := false) (disch := omega) only [wrap64]) | (refine Br.mk (fun h => ?_) (fun h => ?_) <;> try simp (dsimp := false) (disch := omega) only [wrap64]) | refine Ob.mk (by first | omega | (intro _ _; rfl) | trivial | (intros; trivial) | assumption | (intro i hi; have h0 : i = 0 := (by omega); subst h0; first | rfl | trivial) | (intro i hi; have h0 : i = 0 ∨ i = 1 := (by omega); rcases h0 with rfl | rfl <;> rfl) | (intro i hi; have h0 : i = 0 ∨ i = 1 ∨ i = 2 := (by omega); rcases h0 with rfl | rfl | rfl <;> rfl)) ?_ | ((first | ((first | refine atF (f := 131) ?_ | refine atQ (f := 131) ?_); (first | (refine cV (hac := specIsGeneratorSet_ok _ _) (hK := ?_)) | (refine cQV (hac := specIsGeneratorSet_ok _ _) (hK := ?_))))); simp (maxSteps := 1000000) (dsimp := false) (implicitDefEqProofs := false) (disch := omega) only [wrap64, go_sem]) | apply_assumption -exfalso -symm)
  all_goals (first | (show endQ _ _ _ _ _ _ _; (repeat (rename (∀ (A : Fr) (H : Hp), AWP _ _ _ _ A H → _) => hK; clear hK)); (repeat (rename (Fr → Hp → Prop) => K; clear K))) | (show Exists _; (repeat (rename (∀ (A : Fr) (H : Hp), AWP _ _ _ _ A H → _) => hK; clear hK)); (repeat (rename (Fr → Hp → Prop) => K; clear K))) | skip)
  rotate_left
  · have hg : isGens p.n p.m := by assumption
    have hl := hg.2.1
    refine awp_loop (ι := Nat) (fun k => [(3, .v (.int .i64 (k))), (1, .ref 1 0)]) (fun k => Hp.emp.upd 1 (.cells 3 (vecF [.v (.int .i64 p.n), .v (.string p.s), .list false 1 (p.m).length (cM ints [] (p.m))]))) (fun k => k ≤ p.s.size ∧ ∀ j, j < k → isName p.s j) (fun k => p.s.size - k) 0 ?_ (Sub.toL (by simp only [go_sem] <;> first | trivial | (simp only [Option.some.injEq, AV.v.injEq, AV.own.injEq, AV.list.injEq, Value.int.injEq, Value.bool.injEq, true_and, and_true]; first | omega | (simp; done)) | (simp; done) | (simp; omega)) (by (repeat' (first | exact Hp.le_emp _ | exact Hp.le_refl _ | refine Hp.le_upd ?_ ?_)); all_goals (first | rfl | (simp only [go_sem]; first | rfl | (refine cellsE ?_ ?_ <;> (simp)) | (simp))))) ?_
    · exact ⟨Nat.zero_le _, fun j h => absurd h (Nat.not_lt_zero _)⟩
    intro k hk
    repeat' (first | refine awp_seqK fun K hK => ?_ | (refine awp_regionK 69273124879 rfl ?_; simp only [List.map_cons, List.map_nil]; simp (maxSteps := 1000000) (dsimp := false) (implicitDefEqProofs := false) (disch := omega) only [wrap64, go_sem]) | (refine awp_regionQK 69273124879 (by kernel_rfl) (by kernel_rfl) (by kernel_rfl) ?_; simp only [List.map_cons, List.map_nil]; simp (maxSteps := 1000000) (dsimp := false) (implicitDefEqProofs := false) (disch := omega) only [wrap64, go_sem]) | refine awp_block ?_ | (refine awp_skip ?_; simp only [go_sem]) | (refine awp_exit ?_; simp only [go_sem]) | (refine awp_ret ?_; try simp only [go_sem]) | (refine awp_condP rfl ?_; try simp only [go_sem]) | (refine BrP.mk (fun h => ?_) (fun h => ?_) <;> try simp (dsimp := false) (disch := omega) only [wrap64]) | (refine Br.mk (fun h => ?_) (fun h => ?_) <;> try simp (dsimp := false) (disch := omega) only [wrap64]) | refine Ob.mk (by first | omega | (intro _ _; rfl) | trivial | (intros; trivial) | assumption | (intro i hi; have h0 : i = 0 := (by omega); subst h0; first | rfl | trivial) | (intro i hi; have h0 : i = 0 ∨ i = 1 := (by omega); rcases h0 with rfl | rfl <;> rfl) | (intro i hi; have h0 : i = 0 ∨ i = 1 ∨ i = 2 := (by omega); rcases h0 with rfl | rfl | rfl <;> rfl)) ?_ | ((first | ((first | refine atF (f := 132) ?_ | refine atQ (f := 132) ?_); (first | (refine cV (hac := isMoveName_ok _ k (by omega) (by omega)) (hK := ?_)) | (refine cQV (hac := isMoveName_ok _ k (by omega) (by omega)) (hK := ?_))))); simp (maxSteps := 1000000) (dsimp := false) (implicitDefEqProofs := false) (disch := omega) only [wrap64, go_sem]) | apply_assumption -exfalso -symm)
    all_goals (first | (show endQ _ _ _ _ _ _ _; (repeat (rename (∀ (A : Fr) (H : Hp), AWP _ _ _ _ A H → _) => hK; clear hK)); (repeat (rename (Fr → Hp → Prop) => K; clear K))) | (show Exists _; (repeat (rename (∀ (A : Fr) (H : Hp), AWP _ _ _ _ A H → _) => hK; clear hK)); (repeat (rename (Fr → Hp → Prop) => K; clear K))) | skip)
    · refine ⟨k + 1, ?_, ?_, Sub.toL (by simp only [go_sem] <;> first | trivial | (simp only [Option.some.injEq, AV.v.injEq, AV.own.injEq, AV.list.injEq, Value.int.injEq, Value.bool.injEq, true_and, and_true]; first | omega | (simp; done)) | (simp; done) | (simp; omega)) (by (repeat' (first | exact Hp.le_emp _ | exact Hp.le_refl _ | refine Hp.le_upd ?_ ?_)); all_goals (first | rfl | (simp only [go_sem]; first | rfl | (refine cellsE ?_ ?_ <;> (simp)) | (simp))))⟩
      · refine ⟨by omega, fun j hj => ?_⟩
        by_cases h' : j = k
        · subst h'; assumption
        · exact hk.2 j (by omega)
      · omega
    · refine end_retB rfl rfl ?_
      simp only [Bool.false_eq_true, false_iff]
      intro h2; exact ‹¬ isName _ _› (h2.2.2.2 k (by omega))
    · refine end_retB rfl rfl ?_
      simp only [true_iff]
      exact ⟨hg, by omega, by omega, fun j hj => hk.2 j (by omega)⟩
  all_goals (refine end_retB rfl rfl ?_; simp only [Bool.false_eq_true, false_iff, isPz]; first | omega | (intro h2; exact ‹¬ isGens _ _› h2.1))
end Go.Proofs.Ytdllbnchcjgcdaa
end
section
namespace Go.Proofs.Ytdllbnchcjgcdaa
open Go.Av
set_option linter.unusedSimpArgs false
set_option linter.unusedVariables false
attribute [local irreducible] AWP CallG Ob Br BrP Go.Av.Sub endQ AOps OpV AC thenA blkA opsVC opVC withA withArgs opsQ opQ CallQ withA2 withArgs2

open Go.Plain
def nats (p : List Int) : List Nat := p.map Int.toNat
def inB (p : List Int) (k : Nat) : Prop := ∀ j, j < k → 0 ≤ p.getD j 0 ∧ p.getD j 0 ≤ (p.length : Int) - 1

theorem nats_lt {p : List Int} {k : Nat} (hk : k ≤ p.length) (h : inB p k) : ∀ x ∈ nats (p.take k), x < p.length := by
  intro x hx
  simp only [nats, List.mem_map] at hx
  obtain ⟨y, hy, rfl⟩ := hx
  obtain ⟨j, hj, rfl⟩ := mem_getD.1 hy
  have hj' : j < k := by simp at hj; omega
  have e : (p.take k).getD j 0 = p.getD j 0 := by simp [hj']
  have := h j hj'
  rw [e]; omega

theorem mask_step {p : List Int} {k : Nat} (hk : k < p.length) : mask (nats (p.take (k + 1))) = mask (nats (p.take k)) ||| 2 ^ (p.getD k 0).toNat := by
  rw [← mask_snoc]
  congr 1
  rw [List.take_succ_eq_append_getElem hk, nats, List.map_append]
  have e : p.getD k 0 = p[k] := by simp [hk]
  rw [e]; rfl

theorem isPerm_iff (p : List Int) (h1 : 1 ≤ p.length ∧ p.length ≤ 20) (hb : inB p p.length) : mask (nats p) = 2 ^ p.length - 1 ↔ isPerm p := by
  have hlt := nats_lt (Nat.le_refl _) hb
  rw [List.take_length] at hlt
  rw [mask_full hlt, ← nodup_iff_all (by simp [nats]) hlt]
  constructor
  · intro hn
    refine ⟨h1, fun j hj => ⟨hb j hj, fun hm => ?_⟩⟩
    obtain ⟨i, hi, e⟩ := mem_getD.1 hm
    have hi' : i < j := by simp at hi; omega
    have e2 : p[i]'(by omega) = p[j] := by
      have : (p.take j).getD i 0 = p[i]'(by omega) := by
        have : i < p.length := by omega
        simp [hi', this]
      rw [← this, e]; simp [hj]
    have := List.pairwise_iff_getElem.1 hn i j (by simp [nats]; omega) (by simp [nats]; omega) hi'
    exact this (by simp [nats, e2])
  · intro h
    refine List.pairwise_iff_getElem.2 fun i j hi hj hij => ?_
    simp only [nats, List.length_map] at hi hj
    simp only [nats, List.getElem_map]
    intro e
    have b1 := hb i hi
    have b2 := hb j hj
    have e1 : p.getD i 0 = p[i] := by simp [hi]
    have e2 : p.getD j 0 = p[j] := by simp [hj]
    refine (h.2 j hj).2 (mem_getD.2 ⟨i, by simp; omega, ?_⟩)
    have e3 : (p.take j).getD i 0 = p[i] := by simp [hij, hi]
    rw [e3, e2]
    omega

theorem shlE (x : Int) (h : 0 ≤ x ∧ x < 62) : IntKind.i64.wrap (1 * 2 ^ min x.toNat 64) = ((2 ^ x.toNat : Nat) : Int) := by
  have := shl_nat x.toNat (by omega)
  have e : ((x.toNat : Nat) : Int).toNat = x.toNat := by omega
  rw [e] at this
  exact this
theorem stepE {p : List Int} {k : Nat} (hk : k < p.length) (hp : p.length ≤ 20) (h : inB p k) (hx : 0 ≤ p.getD k 0 ∧ p.getD k 0 ≤ (p.length : Int) - 1) :
    IntKind.i64.wrap ((BitVec.ofInt IntKind.i64.bits ((mask (nats (p.take k)) : Nat) : Int) ||| BitVec.ofInt IntKind.i64.bits (IntKind.i64.wrap (1 * 2 ^ min (p.getD k 0).toNat 64))).toNat : Int) = ((mask (nats (p.take (k + 1))) : Nat) : Int) := by
  have b1 : mask (nats (p.take k)) < 2 ^ p.length := mask_lt (nats_lt (Nat.le_of_lt hk) h)
  have b2 : 2 ^ p.length ≤ 2 ^ 20 := Nat.pow_le_pow_right (by omega) hp
  have b3 : 2 ^ (p.getD k 0).toNat ≤ 2 ^ 20 := Nat.pow_le_pow_right (by omega) (by omega)
  rw [shlE _ (by omega), or_nat _ _ (by omega) (by omega), mask_step hk]
theorem fullE (n : Nat) (h : n ≤ 20) : IntKind.i64.wrap (IntKind.i64.wrap (1 * 2 ^ min n 64) - 1) = ((2 ^ n - 1 : Nat) : Int) := by
  have := shlE (n : Int) (by omega)
  have e : ((n : Nat) : Int).toNat = n := by omega
  rw [e] at this
  have b : 2 ^ n ≤ 2 ^ 20 := Nat.pow_le_pow_right (by omega) h
  have b2 : 0 < 2 ^ n := Nat.two_pow_pos n
  rw [this]
  generalize 2 ^ n = m at b b2
  rw [IntKind.wrap_i64]; omega

theorem implIsPermutation_ok (p : List Int) : AC Try.prog 170 [ints p] Hp.emp (fun _ => false) (retV (.v (.bool (decide (isPerm p))))) := by
  refine ac_of_awp (N := ⟨_, fun _ => false, fun _ _ => rfl⟩) Try.func170 rfl (by kernel_rfl) Try.ntmps170 (by simp) ?_
  simp only [argsFr, List.zipIdx_cons, List.zipIdx_nil, go_sem]
  repeat' (first | refine awp_seqK fun K hK => ?_ | (refine awp_regionK 2113069 rfl ?_; simp only [List.map_cons, List.map_nil]; simp (maxSteps := 1000000) (dsimp := false) (implicitDefEqProofs := false) (disch := omega) only [wrap64, go_sem]) | (refine awp_regionQK 2113069 (by kernel_rfl) (by kernel_rfl) (by kernel_rfl) ?_; simp only [List.map_cons, List.map_nil]; simp (maxSteps := 1000000) (dsimp := false) (implicitDefEqProofs := false) (disch := omega) only [wrap64, go_sem]) | refine awp_block ?_ | (refine awp_skip ?_; simp only [go_sem]) | (refine awp_exit ?_; simp only [go_sem]) | (refine awp_ret ?_; try simp only [go_sem]) | (refine awp_condP rfl ?_; try simp only [go_sem]) | (refine BrP.mk (fun h => ?_) (fun h => ?_) <;> try simp (dsimp := false) (disch := omega) only [wrap64]) | (refine Br.mk (fun h => ?_) (fun h => ?_) <;> try simp (dsimp := false) (disch := omega) only [wrap64]) | refine Ob.mk (by first | omega | (intro _ _; rfl) | trivial | (intros; trivial) | assumption | (intro i hi; have h0 : i = 0 := (by omega); subst h0; first | rfl | trivial) | (intro i hi; have h0 : i = 0 ∨ i = 1 := (by omega); rcases h0 with rfl | rfl <;> rfl) | (intro i hi; have h0 : i = 0 ∨ i = 1 ∨ i = 2 := (by omega); rcases h0 with rfl | rfl | rfl <;> rfl)) ?_ | ((first | ((first | refine atF (f := 111) ?_ | refine atQ (f := 111) ?_); (first | (refine cV (hac := within_ok _ _ _) (hK := ?_)) | (refine cQV (hac := within_ok _ _ _) (hK := ?_)))) | ((first | refine atF (f := 113) ?_ | refine atQ (f := 113) ?_); (first | (refine cV (hac := length_ok _) (hK := ?_)) | (refine cQV (hac := length_ok _) (hK := ?_))))); simp (maxSteps := 1000000) (dsimp := false) (implicitDefEqProofs := false) (disch := omega) only [wrap64, go_sem]) | apply_assumption -exfalso -symm)
  all_goals (first | (show endQ _ _ _ _ _ _ _; (repeat (rename (∀ (A : Fr) (H : Hp), AWP _ _ _ _ A H → _) => hK; clear hK)); (repeat (rename (Fr → Hp → Prop) => K; clear K))) | (show Exists _; (repeat (rename (∀ (A : Fr) (H : Hp), AWP _ _ _ _ A H → _) => hK; clear hK)); (repeat (rename (Fr → Hp → Prop) => K; clear K))) | skip)
  · have h1 : 1 ≤ p.length ∧ p.length ≤ 20 := by omega
    refine awp_loop (ι := Nat) (fun k => [(12, .v (.int .i64 (k))), (11, .v (.int .i64 (p.length))), (10, .list false 1 (p).length (cM iv 0 (p))), (3, .v (.int .i64 ((mask (nats (p.take k)) : Nat)))), (0, .list false 1 (p).length (cM iv 0 (p)))]) (fun k => Hp.emp) (fun k => k ≤ p.length ∧ inB p k) (fun k => p.length - k) 0 ?_ (Sub.toL (by simp only [go_sem] <;> first | trivial | (simp only [Option.some.injEq, AV.v.injEq, AV.own.injEq, AV.list.injEq, Value.int.injEq, Value.bool.injEq, true_and, and_true]; first | omega | (simp [mask, nats]; done)) | (simp [mask, nats]; done) | (simp [mask, nats]; omega)) (by (repeat' (first | exact Hp.le_emp _ | exact Hp.le_refl _ | refine Hp.le_upd ?_ ?_)); all_goals (first | rfl | (simp only [go_sem]; first | rfl | (refine cellsE ?_ ?_ <;> (simp [mask, nats])) | (simp [mask, nats]))))) ?_
    · exact ⟨Nat.zero_le _, fun j h => absurd h (Nat.not_lt_zero _)⟩
    intro k hk
    repeat' (first | refine awp_seqK fun K hK => ?_ | (refine awp_regionK 2113069 rfl ?_; simp only [List.map_cons, List.map_nil]; simp (maxSteps := 1000000) (dsimp := false) (implicitDefEqProofs := false) (disch := omega) only [wrap64, go_sem]) | (refine awp_regionQK 2113069 (by kernel_rfl) (by kernel_rfl) (by kernel_rfl) ?_; simp only [List.map_cons, List.map_nil]; simp (maxSteps := 1000000) (dsimp := false) (implicitDefEqProofs := false) (disch := omega) only [wrap64, go_sem]) | refine awp_block ?_ | (refine awp_skip ?_; simp only [go_sem]) | (refine awp_exit ?_; simp only [go_sem]) | (refine awp_ret ?_; try simp only [go_sem]) | (refine awp_condP rfl ?_; try simp only [go_sem]) | (refine BrP.mk (fun h => ?_) (fun h => ?_) <;> try simp (dsimp := false) (disch := omega) only [wrap64]) | (refine Br.mk (fun h => ?_) (fun h => ?_) <;> try simp (dsimp := false) (disch := omega) only [wrap64]) | refine Ob.mk (by first | omega | (intro _ _; rfl) | trivial | (intros; trivial) | assumption | (intro i hi; have h0 : i = 0 := (by omega); subst h0; first | rfl | trivial) | (intro i hi; have h0 : i = 0 ∨ i = 1 := (by omega); rcases h0 with rfl | rfl <;> rfl) | (intro i hi; have h0 : i = 0 ∨ i = 1 ∨ i = 2 := (by omega); rcases h0 with rfl | rfl | rfl <;> rfl)) ?_ | ((first | ((first | refine atF (f := 111) ?_ | refine atQ (f := 111) ?_); (first | (refine cV (hac := within_ok _ _ _) (hK := ?_)) | (refine cQV (hac := within_ok _ _ _) (hK := ?_)))) | ((first | refine atF (f := 113) ?_ | refine atQ (f := 113) ?_); (first | (refine cV (hac := length_ok _) (hK := ?_)) | (refine cQV (hac := length_ok _) (hK := ?_))))); simp (maxSteps := 1000000) (dsimp := false) (implicitDefEqProofs := false) (disch := omega) only [wrap64, go_sem]) | apply_assumption -exfalso -symm)
    all_goals (first | (show endQ _ _ _ _ _ _ _; (repeat (rename (∀ (A : Fr) (H : Hp), AWP _ _ _ _ A H → _) => hK; clear hK)); (repeat (rename (Fr → Hp → Prop) => K; clear K))) | (show Exists _; (repeat (rename (∀ (A : Fr) (H : Hp), AWP _ _ _ _ A H → _) => hK; clear hK)); (repeat (rename (Fr → Hp → Prop) => K; clear K))) | skip)
    · rw [stepE (by omega) h1.2 hk.2 ‹_›]
      refine ⟨k + 1, ?_, ?_, Sub.toL (by simp only [go_sem] <;> first | trivial | (simp only [Option.some.injEq, AV.v.injEq, AV.own.injEq, AV.list.injEq, Value.int.injEq, Value.bool.injEq, true_and, and_true]; first | omega | (simp; done)) | (simp; done) | (simp; omega)) (by (repeat' (first | exact Hp.le_emp _ | exact Hp.le_refl _ | refine Hp.le_upd ?_ ?_)); all_goals (first | rfl | (simp only [go_sem]; first | rfl | (refine cellsE ?_ ?_ <;> (simp)) | (simp))))⟩
      · refine ⟨by omega, fun j hj => ?_⟩
        by_cases h' : j = k
        · subst h'; assumption
        · exact hk.2 j (by omega)
      · omega
    · refine end_retB rfl rfl ?_
      simp only [Bool.false_eq_true, false_iff]
      intro h2; exact ‹¬ (_ ∧ _)› (h2.2 k (by omega)).1
    · have e : k = p.length := by omega
      subst e
      refine end_retB rfl rfl ?_
      rw [fullE _ h1.2, List.take_length, decide_eq_true_eq, ← isPerm_iff p h1 hk.2]
      omega
  · refine end_retB rfl rfl ?_
    simp only [Bool.false_eq_true, false_iff]
    intro h2; have := h2.1; omega
end Go.Proofs.Ytdllbnchcjgcdaa
end
section
namespace Go.Proofs.Ytdllbnchcjgcdaa
open Go.Av
set_option linter.unusedSimpArgs false
set_option linter.unusedVariables false
attribute [local irreducible] AWP CallG Ob Br BrP Go.Av.Sub endQ AOps OpV AC thenA blkA opsVC opVC withA withArgs opsQ opQ CallQ withA2 withArgs2

def fidx {α : Type} (p : α → Bool) (xs : List α) : Int := match xs.findIdx? p with | some i => (i : Int) | none => -1
theorem fidx_hit {α : Type} (p : α → Bool) (xs : List α) (d : α) (k : Nat) (hk : k < xs.length) (h1 : ∀ j, j < k → p (xs.getD j d) = false) (h2 : p (xs.getD k d) = true) : fidx p xs = k := by
  have : xs.findIdx? p = some k := by
    rw [List.findIdx?_eq_some_iff_getElem]
    have e : ∀ j (hj : j < xs.length), xs.getD j d = xs[j] := fun j hj => by simp [hj]
    refine ⟨hk, by rw [← e k hk]; exact h2, fun j hj => ?_⟩
    rw [← e j (by omega), h1 j hj]; simp
  simp [fidx, this]
theorem fidx_none {α : Type} (p : α → Bool) (xs : List α) (d : α) (h1 : ∀ j, j < xs.length → p (xs.getD j d) = false) : fidx p xs = -1 := by
  have : xs.findIdx? p = none := by
    rw [List.findIdx?_eq_none_iff]
    intro x hx
    obtain ⟨i, hi, rfl⟩ := List.getElem_of_mem hx
    have e : xs.getD i d = xs[i] := by simp [hi]
    rw [← e]; exact h1 i hi
  simp [fidx, this]
theorem fidx_nonneg {α : Type} (p : α → Bool) (xs : List α) : 0 ≤ fidx p xs ↔ xs.any p = true := by
  unfold fidx
  split
  · rename_i i h
    have := List.findIdx?_eq_some_iff_getElem.1 h
    obtain ⟨hi, h1, _⟩ := this
    simp only [Int.natCast_nonneg, true_iff, List.any_eq_true]
    exact ⟨_, List.getElem_mem hi, h1⟩
  · rename_i h
    rw [List.findIdx?_eq_none_iff] at h
    simp only [List.any_eq_true]
    constructor
    · intro h; omega
    · rintro ⟨x, hx, hp⟩; rw [h x hx] at hp; cases hp

theorem indexFuncSS_ok (xs : List (List Int)) (g : FuncId) (c : AV) (p : List Int → Bool) (hx : xs.length ≤ 1048576)
    (hg : ∀ j, j < xs.length → AC Try.prog g [ints (xs.getD j []), c] Hp.emp (fun _ => false) (retV (.v (.bool (p (xs.getD j [])))))) :
    AC Try.prog 151 [intss xs, .clo g 1 (fun _ => c)] Hp.emp (fun _ => false) (retV (.v (.int .i64 (fidx p xs)))) := by
  refine ac_of_awp (N := ⟨_, fun _ => false, fun _ _ => rfl⟩) Try.func151 rfl (by kernel_rfl) Try.ntmps151 (by simp) ?_
  simp only [argsFr, List.zipIdx_cons, List.zipIdx_nil, go_sem]
  repeat' (first | refine awp_seqK fun K hK => ?_ | (refine awp_regionK 66483 rfl ?_; simp only [List.map_cons, List.map_nil]; simp (maxSteps := 1000000) (dsimp := false) (implicitDefEqProofs := false) (disch := omega) only [wrap64, go_sem]) | (refine awp_regionQK 66483 (by kernel_rfl) (by kernel_rfl) (by kernel_rfl) ?_; simp only [List.map_cons, List.map_nil]; simp (maxSteps := 1000000) (dsimp := false) (implicitDefEqProofs := false) (disch := omega) only [wrap64, go_sem]) | refine awp_block ?_ | (refine awp_skip ?_; simp only [go_sem]) | (refine awp_exit ?_; simp only [go_sem]) | (refine awp_ret ?_; try simp only [go_sem]) | (refine awp_condP rfl ?_; try simp only [go_sem]) | (refine BrP.mk (fun h => ?_) (fun h => ?_) <;> try simp (dsimp := false) (disch := omega) only [wrap64]) | (refine Br.mk (fun h => ?_) (fun h => ?_) <;> try simp (dsimp := false) (disch := omega) only [wrap64]) | refine Ob.mk (by first | omega | (intro _ _; rfl) | trivial | (intros; trivial) | assumption | (intro i hi; have h0 : i = 0 := (by omega); subst h0; first | rfl | trivial) | (intro i hi; have h0 : i = 0 ∨ i = 1 := (by omega); rcases h0 with rfl | rfl <;> rfl) | (intro i hi; have h0 : i = 0 ∨ i = 1 ∨ i = 2 := (by omega); rcases h0 with rfl | rfl | rfl <;> rfl)) ?_ | apply_assumption -exfalso -symm)
  all_goals (first | (show endQ _ _ _ _ _ _ _; (repeat (rename (∀ (A : Fr) (H : Hp), AWP _ _ _ _ A H → _) => hK; clear hK)); (repeat (rename (Fr → Hp → Prop) => K; clear K))) | (show Exists _; (repeat (rename (∀ (A : Fr) (H : Hp), AWP _ _ _ _ A H → _) => hK; clear hK)); (repeat (rename (Fr → Hp → Prop) => K; clear K))) | skip)
  refine awp_loop (ι := Nat) (fun k => [(8, .v (.int .i64 (k))), (7, .v (.int .i64 (xs.length))), (0, .list false 1 (xs).length (cM ints [] (xs))), (1, .clo g 1 (fun _ => c))]) (fun k => Hp.emp) (fun k => k ≤ xs.length ∧ ∀ j, j < k → p (xs.getD j []) = false) (fun k => xs.length - k) 0 ?_ (Sub.toL (by simp only [go_sem] <;> first | trivial | (simp only [Option.some.injEq, AV.v.injEq, AV.own.injEq, AV.list.injEq, Value.int.injEq, Value.bool.injEq, true_and, and_true]; first | omega | (simp; done)) | (simp; done) | (simp; omega)) (by (repeat' (first | exact Hp.le_emp _ | exact Hp.le_refl _ | refine Hp.le_upd ?_ ?_)); all_goals (first | rfl | (simp only [go_sem]; first | rfl | (refine cellsE ?_ ?_ <;> (simp)) | (simp))))) ?_
  · exact ⟨Nat.zero_le _, fun j h => absurd h (Nat.not_lt_zero _)⟩
  intro k hk
  repeat' (first | refine awp_seqK fun K hK => ?_ | (refine awp_regionK 66483 rfl ?_; simp only [List.map_cons, List.map_nil]; simp (maxSteps := 1000000) (dsimp := false) (implicitDefEqProofs := false) (disch := omega) only [wrap64, go_sem]) | (refine awp_regionQK 66483 (by kernel_rfl) (by kernel_rfl) (by kernel_rfl) ?_; simp only [List.map_cons, List.map_nil]; simp (maxSteps := 1000000) (dsimp := false) (implicitDefEqProofs := false) (disch := omega) only [wrap64, go_sem]) | refine awp_block ?_ | (refine awp_skip ?_; simp only [go_sem]) | (refine awp_exit ?_; simp only [go_sem]) | (refine awp_ret ?_; try simp only [go_sem]) | (refine awp_condP rfl ?_; try simp only [go_sem]) | (refine BrP.mk (fun h => ?_) (fun h => ?_) <;> try simp (dsimp := false) (disch := omega) only [wrap64]) | (refine Br.mk (fun h => ?_) (fun h => ?_) <;> try simp (dsimp := false) (disch := omega) only [wrap64]) | refine Ob.mk (by first | omega | (intro _ _; rfl) | trivial | (intros; trivial) | assumption | (intro i hi; have h0 : i = 0 := (by omega); subst h0; first | rfl | trivial) | (intro i hi; have h0 : i = 0 ∨ i = 1 := (by omega); rcases h0 with rfl | rfl <;> rfl) | (intro i hi; have h0 : i = 0 ∨ i = 1 ∨ i = 2 := (by omega); rcases h0 with rfl | rfl | rfl <;> rfl)) ?_ | ((first | (refine cV (hac := hg k (by omega)) (hK := ?_)) | (refine cQV (hac := hg k (by omega)) (hK := ?_))); simp (maxSteps := 1000000) (dsimp := false) (implicitDefEqProofs := false) (disch := omega) only [wrap64, go_sem]) | apply_assumption -exfalso -symm)
  all_goals (first | (show endQ _ _ _ _ _ _ _; (repeat (rename (∀ (A : Fr) (H : Hp), AWP _ _ _ _ A H → _) => hK; clear hK)); (repeat (rename (Fr → Hp → Prop) => K; clear K))) | (show Exists _; (repeat (rename (∀ (A : Fr) (H : Hp), AWP _ _ _ _ A H → _) => hK; clear hK)); (repeat (rename (Fr → Hp → Prop) => K; clear K))) | skip)
  · exact end_retN rfl rfl (fidx_hit p xs [] k (by omega) hk.2 ‹_›).symm
  · refine ⟨k + 1, ?_, ?_, Sub.toL (by simp only [go_sem] <;> first | trivial | (simp only [Option.some.injEq, AV.v.injEq, AV.own.injEq, AV.list.injEq, Value.int.injEq, Value.bool.injEq, true_and, and_true]; first | omega | (simp; done)) | (simp; done) | (simp; omega)) (by (repeat' (first | exact Hp.le_emp _ | exact Hp.le_refl _ | refine Hp.le_upd ?_ ?_)); all_goals (first | rfl | (simp only [go_sem]; first | rfl | (refine cellsE ?_ ?_ <;> (simp)) | (simp))))⟩
    · refine ⟨by omega, fun j hj => ?_⟩
      by_cases h' : j = k
      · subst h'; assumption
      · exact hk.2 j (by omega)
    · omega
  · exact end_retN rfl rfl (fidx_none p xs [] fun j hj => hk.2 j (by omega)).symm

theorem containsFuncSS_ok (xs : List (List Int)) (g : FuncId) (c : AV) (p : List Int → Bool) (hx : xs.length ≤ 1048576)
    (hg : ∀ j, j < xs.length → AC Try.prog g [ints (xs.getD j []), c] Hp.emp (fun _ => false) (retV (.v (.bool (p (xs.getD j [])))))) :
    AC Try.prog 168 [intss xs, .clo g 1 (fun _ => c)] Hp.emp (fun _ => false) (retV (.v (.bool (xs.any p)))) := by
  refine ac_of_awp (N := ⟨_, fun _ => false, fun _ _ => rfl⟩) Try.func168 rfl (by kernel_rfl) Try.ntmps168 (by simp) ?_
  simp only [argsFr, List.zipIdx_cons, List.zipIdx_nil, go_sem]
  repeat' (first | refine awp_seqK fun K hK => ?_ | (refine awp_regionK 19 rfl ?_; simp only [List.map_cons, List.map_nil]; simp (maxSteps := 1000000) (dsimp := false) (implicitDefEqProofs := false) (disch := omega) only [wrap64, go_sem]) | (refine awp_regionQK 19 (by kernel_rfl) (by kernel_rfl) (by kernel_rfl) ?_; simp only [List.map_cons, List.map_nil]; simp (maxSteps := 1000000) (dsimp := false) (implicitDefEqProofs := false) (disch := omega) only [wrap64, go_sem]) | refine awp_block ?_ | (refine awp_skip ?_; simp only [go_sem]) | (refine awp_exit ?_; simp only [go_sem]) | (refine awp_ret ?_; try simp only [go_sem]) | (refine awp_condP rfl ?_; try simp only [go_sem]) | (refine BrP.mk (fun h => ?_) (fun h => ?_) <;> try simp (dsimp := false) (disch := omega) only [wrap64]) | (refine Br.mk (fun h => ?_) (fun h => ?_) <;> try simp (dsimp := false) (disch := omega) only [wrap64]) | refine Ob.mk (by first | omega | (intro _ _; rfl) | trivial | (intros; trivial) | assumption | (intro i hi; have h0 : i = 0 := (by omega); subst h0; first | rfl | trivial) | (intro i hi; have h0 : i = 0 ∨ i = 1 := (by omega); rcases h0 with rfl | rfl <;> rfl) | (intro i hi; have h0 : i = 0 ∨ i = 1 ∨ i = 2 := (by omega); rcases h0 with rfl | rfl | rfl <;> rfl)) ?_ | ((first | ((first | refine atF (f := 151) ?_ | refine atQ (f := 151) ?_); (first | (refine cV (hac := indexFuncSS_ok xs g c p hx hg) (hK := ?_)) | (refine cQV (hac := indexFuncSS_ok xs g c p hx hg) (hK := ?_))))); simp (maxSteps := 1000000) (dsimp := false) (implicitDefEqProofs := false) (disch := omega) only [wrap64, go_sem]) | apply_assumption -exfalso -symm)
  all_goals (first | (show endQ _ _ _ _ _ _ _; (repeat (rename (∀ (A : Fr) (H : Hp), AWP _ _ _ _ A H → _) => hK; clear hK)); (repeat (rename (Fr → Hp → Prop) => K; clear K))) | (show Exists _; (repeat (rename (∀ (A : Fr) (H : Hp), AWP _ _ _ _ A H → _) => hK; clear hK)); (repeat (rename (Fr → Hp → Prop) => K; clear K))) | skip)
  refine end_retV' rfl rfl ?_
  congr 2
  have := fidx_nonneg p xs
  cases hh : xs.any p
  · simp [hh] at this; simp; omega
  · simp [hh] at this; simpa using this

theorem isGenClo_ok (q : List Int) (n : Int) : AC Try.prog 169 [ints q, .ptr 1 (fun _ => .v (.int .i64 (n)))] Hp.emp (fun _ => false) (retV (.v (.bool (!decide ((q.length : Int) = n ∧ isPerm q))))) := by
  refine ac_of_awp (N := ⟨_, fun _ => false, fun _ _ => rfl⟩) Try.func169 rfl (by kernel_rfl) Try.ntmps169 (by simp) ?_
  simp only [argsFr, List.zipIdx_cons, List.zipIdx_nil, go_sem]
  repeat' (first | refine awp_seqK fun K hK => ?_ | (refine awp_regionK 11 rfl ?_; simp only [List.map_cons, List.map_nil]; simp (maxSteps := 1000000) (dsimp := false) (implicitDefEqProofs := false) (disch := omega) only [wrap64, go_sem]) | (refine awp_regionQK 11 (by kernel_rfl) (by kernel_rfl) (by kernel_rfl) ?_; simp only [List.map_cons, List.map_nil]; simp (maxSteps := 1000000) (dsimp := false) (implicitDefEqProofs := false) (disch := omega) only [wrap64, go_sem]) | refine awp_block ?_ | (refine awp_skip ?_; simp only [go_sem]) | (refine awp_exit ?_; simp only [go_sem]) | (refine awp_ret ?_; try simp only [go_sem]) | (refine awp_condP rfl ?_; try simp only [go_sem]) | (refine BrP.mk (fun h => ?_) (fun h => ?_) <;> try simp (dsimp := false) (disch := omega) only [wrap64]) | (refine Br.mk (fun h => ?_) (fun h => ?_) <;> try simp (dsimp := false) (disch := omega) only [wrap64]) | refine Ob.mk (by first | omega | (intro _ _; rfl) | trivial | (intros; trivial) | assumption | (intro i hi; have h0 : i = 0 := (by omega); subst h0; first | rfl | trivial) | (intro i hi; have h0 : i = 0 ∨ i = 1 := (by omega); rcases h0 with rfl | rfl <;> rfl) | (intro i hi; have h0 : i = 0 ∨ i = 1 ∨ i = 2 := (by omega); rcases h0 with rfl | rfl | rfl <;> rfl)) ?_ | ((first | ((first | refine atF (f := 113) ?_ | refine atQ (f := 113) ?_); (first | (refine cV (hac := length_ok _) (hK := ?_)) | (refine cQV (hac := length_ok _) (hK := ?_)))) | ((first | refine atF (f := 170) ?_ | refine atQ (f := 170) ?_); (first | (refine cV (hac := implIsPermutation_ok _) (hK := ?_)) | (refine cQV (hac := implIsPermutation_ok _) (hK := ?_))))); simp (maxSteps := 1000000) (dsimp := false) (implicitDefEqProofs := false) (disch := omega) only [wrap64, go_sem]) | apply_assumption -exfalso -symm)
  all_goals (first | (show endQ _ _ _ _ _ _ _; (repeat (rename (∀ (A : Fr) (H : Hp), AWP _ _ _ _ A H → _) => hK; clear hK)); (repeat (rename (Fr → Hp → Prop) => K; clear K))) | (show Exists _; (repeat (rename (∀ (A : Fr) (H : Hp), AWP _ _ _ _ A H → _) => hK; clear hK)); (repeat (rename (Fr → Hp → Prop) => K; clear K))) | skip)
  · exact end_retV' rfl rfl (by simp only [*, true_and])
  · exact end_retV' rfl rfl (by simp only [*, false_and, decide_false, Bool.not_false])

theorem any_gens (n : Int) (g : List (List Int)) : (g.any fun q => !decide ((q.length : Int) = n ∧ isPerm q)) = false ↔ ∀ j, j < g.length → ((g.getD j []).length : Int) = n ∧ isPerm (g.getD j []) := by
  rw [List.any_eq_false]
  constructor
  · intro h j hj
    have := h _ (List.getElem_mem hj)
    have e : g.getD j [] = g[j] := by simp [hj]
    rw [e]; simpa using this
  · intro h x hx
    obtain ⟨i, hi, rfl⟩ := List.getElem_of_mem hx
    have := h i hi
    have e : g.getD i [] = g[i] := by simp [hi]
    rw [e] at this; simpa using this

theorem implIsGeneratorSet_ok (n : Int) (g : List (List Int)) : AC Try.prog 135 [.v (.int .i64 (n)), intss g] Hp.emp (fun _ => false) (retV (.v (.bool (decide (isGens n g))))) := by
  refine ac_of_awp (N := ⟨_, fun _ => false, fun _ _ => rfl⟩) Try.func135 rfl (by kernel_rfl) Try.ntmps135 (by simp) ?_
  simp only [argsFr, List.zipIdx_cons, List.zipIdx_nil, go_sem]
  repeat' (first | refine awp_seqK fun K hK => ?_ | (refine awp_regionK 23 rfl ?_; simp only [List.map_cons, List.map_nil]; simp (maxSteps := 1000000) (dsimp := false) (implicitDefEqProofs := false) (disch := omega) only [wrap64, go_sem]) | (refine awp_regionQK 23 (by kernel_rfl) (by kernel_rfl) (by kernel_rfl) ?_; simp only [List.map_cons, List.map_nil]; simp (maxSteps := 1000000) (dsimp := false) (implicitDefEqProofs := false) (disch := omega) only [wrap64, go_sem]) | refine awp_block ?_ | (refine awp_skip ?_; simp only [go_sem]) | (refine awp_exit ?_; simp only [go_sem]) | (refine awp_ret ?_; try simp only [go_sem]) | (refine awp_condP rfl ?_; try simp only [go_sem]) | (refine BrP.mk (fun h => ?_) (fun h => ?_) <;> try simp (dsimp := false) (disch := omega) only [wrap64]) | (refine Br.mk (fun h => ?_) (fun h => ?_) <;> try simp (dsimp := false) (disch := omega) only [wrap64]) | refine Ob.mk (by first | omega | (intro _ _; rfl) | trivial | (intros; trivial) | assumption | (intro i hi; have h0 : i = 0 := (by omega); subst h0; first | rfl | trivial) | (intro i hi; have h0 : i = 0 ∨ i = 1 := (by omega); rcases h0 with rfl | rfl <;> rfl) | (intro i hi; have h0 : i = 0 ∨ i = 1 ∨ i = 2 := (by omega); rcases h0 with rfl | rfl | rfl <;> rfl)) ?_ | ((first | ((first | refine atF (f := 111) ?_ | refine atQ (f := 111) ?_); (first | (refine cV (hac := within_ok _ _ _) (hK := ?_)) | (refine cQV (hac := within_ok _ _ _) (hK := ?_)))) | ((first | refine atF (f := 168) ?_ | refine atQ (f := 168) ?_); (first | (refine cV (hac := containsFuncSS_ok g _ (.ptr 1 fun _ => .v (.int .i64 (n))) (fun q => !decide ((q.length : Int) = n ∧ isPerm q)) (by omega) (fun j _ => isGenClo_ok _ _)) (hK := ?_)) | (refine cQV (hac := containsFuncSS_ok g _ (.ptr 1 fun _ => .v (.int .i64 (n))) (fun q => !decide ((q.length : Int) = n ∧ isPerm q)) (by omega) (fun j _ => isGenClo_ok _ _)) (hK := ?_))))); simp (maxSteps := 1000000) (dsimp := false) (implicitDefEqProofs := false) (disch := omega) only [wrap64, go_sem]) | apply_assumption -exfalso -symm)
  all_goals (first | (show endQ _ _ _ _ _ _ _; (repeat (rename (∀ (A : Fr) (H : Hp), AWP _ _ _ _ A H → _) => hK; clear hK)); (repeat (rename (Fr → Hp → Prop) => K; clear K))) | (show Exists _; (repeat (rename (∀ (A : Fr) (H : Hp), AWP _ _ _ _ A H → _) => hK; clear hK)); (repeat (rename (Fr → Hp → Prop) => K; clear K))) | skip)
  · refine end_retB rfl rfl ?_
    rw [Bool.not_eq_true', any_gens]
    exact ⟨fun h => ⟨by omega, by omega, h⟩, fun h => h.2.2⟩
  all_goals (refine end_retB rfl rfl ?_; simp only [Bool.false_eq_true, false_iff, isGens]; omega)

theorem isNames_ok (s : ByteArray) (hs : s.size ≤ 140737488355328) : AC Try.prog 136 [.v (.string (s))] Hp.emp (fun _ => false) (retV (.v (.bool (decide ((1 ≤ s.size ∧ s.size ≤ 8) ∧ ∀ i, i < s.size → isName s i))))) := by
  refine ac_of_awp (N := ⟨_, fun _ => false, fun _ _ => rfl⟩) Try.func136 rfl (by kernel_rfl) Try.ntmps136 (by simp) ?_
  simp only [argsFr, List.zipIdx_cons, List.zipIdx_nil, go_sem]
  repeat' (first | refine awp_seqK fun K hK => ?_ | (refine awp_regionK 67600861 rfl ?_; simp only [List.map_cons, List.map_nil]; simp (maxSteps := 1000000) (dsimp := false) (implicitDefEqProofs := false) (disch := omega) only [wrap64, go_sem, bt_fold]) | (refine awp_regionQK 67600861 (by kernel_rfl) (by kernel_rfl) (by kernel_rfl) ?_; simp only [List.map_cons, List.map_nil]; simp (maxSteps := 1000000) (dsimp := false) (implicitDefEqProofs := false) (disch := omega) only [wrap64, go_sem, bt_fold]) | refine awp_block ?_ | (refine awp_skip ?_; simp only [go_sem, bt_fold]) | (refine awp_exit ?_; simp only [go_sem, bt_fold]) | (refine awp_ret ?_; try simp only [go_sem, bt_fold]) | (refine awp_condP rfl ?_; try simp only [go_sem, bt_fold]) | (refine BrP.mk (fun h => ?_) (fun h => ?_) <;> try simp (dsimp := false) (disch := omega) only [wrap64]) | (refine Br.mk (fun h => ?_) (fun h => ?_) <;> try simp (dsimp := false) (disch := omega) only [wrap64]) | refine Ob.mk (by first | omega | (intro _ _; rfl) | trivial | (intros; trivial) | assumption | (intro i hi; have h0 : i = 0 := (by omega); subst h0; first | rfl | trivial) | (intro i hi; have h0 : i = 0 ∨ i = 1 := (by omega); rcases h0 with rfl | rfl <;> rfl) | (intro i hi; have h0 : i = 0 ∨ i = 1 ∨ i = 2 := (by omega); rcases h0 with rfl | rfl | rfl <;> rfl)) ?_ | ((first | ((first | refine atF (f := 111) ?_ | refine atQ (f := 111) ?_); (first | (refine cV (hac := within_ok _ _ _) (hK := ?_)) | (refine cQV (hac := within_ok _ _ _) (hK := ?_))))); simp (maxSteps := 1000000) (dsimp := false) (implicitDefEqProofs := false) (disch := omega) only [wrap64, go_sem, bt_fold]) | apply_assumption -exfalso -symm)
  all_goals (first | (show endQ _ _ _ _ _ _ _; (repeat (rename (∀ (A : Fr) (H : Hp), AWP _ _ _ _ A H → _) => hK; clear hK)); (repeat (rename (Fr → Hp → Prop) => K; clear K))) | (show Exists _; (repeat (rename (∀ (A : Fr) (H : Hp), AWP _ _ _ _ A H → _) => hK; clear hK)); (repeat (rename (Fr → Hp → Prop) => K; clear K))) | skip)
  refine awp_loop (ι := Nat) (fun k => [(7, .v (.int .i64 (k))), (6, .v (.int .i64 (s.size))), (0, .v (.string (s)))]) (fun k => Hp.emp) (fun k => k ≤ s.size ∧ ∀ j, j < k → isName s j) (fun k => s.size - k) 0 ?_ (Sub.toL (by simp only [go_sem] <;> first | trivial | (simp only [Option.some.injEq, AV.v.injEq, AV.own.injEq, AV.list.injEq, Value.int.injEq, Value.bool.injEq, true_and, and_true]; first | omega | (simp; done)) | (simp; done) | (simp; omega)) (by (repeat' (first | exact Hp.le_emp _ | exact Hp.le_refl _ | refine Hp.le_upd ?_ ?_)); all_goals (first | rfl | (simp only [go_sem]; first | rfl | (refine cellsE ?_ ?_ <;> (simp)) | (simp))))) ?_
  · exact ⟨Nat.zero_le _, fun j h => absurd h (Nat.not_lt_zero _)⟩
  intro k hk
  repeat' (first | refine awp_seqK fun K hK => ?_ | (refine awp_regionK 67600861 rfl ?_; simp only [List.map_cons, List.map_nil]; simp (maxSteps := 1000000) (dsimp := false) (implicitDefEqProofs := false) (disch := omega) only [wrap64, go_sem, bt_fold, wrap_bt]) | (refine awp_regionQK 67600861 (by kernel_rfl) (by kernel_rfl) (by kernel_rfl) ?_; simp only [List.map_cons, List.map_nil]; simp (maxSteps := 1000000) (dsimp := false) (implicitDefEqProofs := false) (disch := omega) only [wrap64, go_sem, bt_fold, wrap_bt]) | refine awp_block ?_ | (refine awp_skip ?_; simp only [go_sem, bt_fold, wrap_bt]) | (refine awp_exit ?_; simp only [go_sem, bt_fold, wrap_bt]) | (refine awp_ret ?_; try simp only [go_sem, bt_fold, wrap_bt]) | (refine awp_condP rfl ?_; try simp only [go_sem, bt_fold, wrap_bt]) | (refine BrP.mk (fun h => ?_) (fun h => ?_) <;> try simp (dsimp := false) (disch := omega) only [wrap64]) | (refine Br.mk (fun h => ?_) (fun h => ?_) <;> try simp (dsimp := false) (disch := omega) only [wrap64]) | refine Ob.mk (by first | omega | (intro _ _; rfl) | trivial | (intros; trivial) | assumption | (intro i hi; have h0 : i = 0 := (by omega); subst h0; first | rfl | trivial) | (intro i hi; have h0 : i = 0 ∨ i = 1 := (by omega); rcases h0 with rfl | rfl <;> rfl) | (intro i hi; have h0 : i = 0 ∨ i = 1 ∨ i = 2 := (by omega); rcases h0 with rfl | rfl | rfl <;> rfl)) ?_ | ((first | ((first | refine atF (f := 111) ?_ | refine atQ (f := 111) ?_); (first | (refine cV (hac := within_ok _ _ _) (hK := ?_)) | (refine cQV (hac := within_ok _ _ _) (hK := ?_))))); simp (maxSteps := 1000000) (dsimp := false) (implicitDefEqProofs := false) (disch := omega) only [wrap64, go_sem, bt_fold, wrap_bt]) | apply_assumption -exfalso -symm)
  all_goals (first | (show endQ _ _ _ _ _ _ _; (repeat (rename (∀ (A : Fr) (H : Hp), AWP _ _ _ _ A H → _) => hK; clear hK)); (repeat (rename (Fr → Hp → Prop) => K; clear K))) | (show Exists _; (repeat (rename (∀ (A : Fr) (H : Hp), AWP _ _ _ _ A H → _) => hK; clear hK)); (repeat (rename (Fr → Hp → Prop) => K; clear K))) | skip)
  · refine awp_loop (ι := Nat) (fun i => [(17, .v (.int .i64 (i))), (16, .v (.int .i64 (k))), (3, .v (.int .i64 (k))), (7, .v (.int .i64 (k))), (6, .v (.int .i64 (s.size))), (0, .v (.string (s)))]) (fun i => Hp.emp) (fun i => i ≤ k ∧ ∀ j, j < i → bt s j ≠ bt s k) (fun i => k - i) 0 ?_ (Sub.toL (by simp only [go_sem] <;> first | trivial | (simp only [Option.some.injEq, AV.v.injEq, AV.own.injEq, AV.list.injEq, Value.int.injEq, Value.bool.injEq, true_and, and_true]; first | omega | (simp; done)) | (simp; done) | (simp; omega)) (by (repeat' (first | exact Hp.le_emp _ | exact Hp.le_refl _ | refine Hp.le_upd ?_ ?_)); all_goals (first | rfl | (simp only [go_sem]; first | rfl | (refine cellsE ?_ ?_ <;> (simp)) | (simp))))) ?_
    · exact ⟨Nat.zero_le _, fun j h => absurd h (Nat.not_lt_zero _)⟩
    intro i hi
    repeat' (first | refine awp_seqK fun K hK => ?_ | (refine awp_regionK 67600861 rfl ?_; simp only [List.map_cons, List.map_nil]; simp (maxSteps := 1000000) (dsimp := false) (implicitDefEqProofs := false) (disch := omega) only [wrap64, go_sem, bt_fold, wrap_bt]) | (refine awp_regionQK 67600861 (by kernel_rfl) (by kernel_rfl) (by kernel_rfl) ?_; simp only [List.map_cons, List.map_nil]; simp (maxSteps := 1000000) (dsimp := false) (implicitDefEqProofs := false) (disch := omega) only [wrap64, go_sem, bt_fold, wrap_bt]) | refine awp_block ?_ | (refine awp_skip ?_; simp only [go_sem, bt_fold, wrap_bt]) | (refine awp_exit ?_; simp only [go_sem, bt_fold, wrap_bt]) | (refine awp_ret ?_; try simp only [go_sem, bt_fold, wrap_bt]) | (refine awp_condP rfl ?_; try simp only [go_sem, bt_fold, wrap_bt]) | (refine BrP.mk (fun h => ?_) (fun h => ?_) <;> try simp (dsimp := false) (disch := omega) only [wrap64]) | (refine Br.mk (fun h => ?_) (fun h => ?_) <;> try simp (dsimp := false) (disch := omega) only [wrap64]) | refine Ob.mk (by first | omega | (intro _ _; rfl) | trivial | (intros; trivial) | assumption | (intro i hi; have h0 : i = 0 := (by omega); subst h0; first | rfl | trivial) | (intro i hi; have h0 : i = 0 ∨ i = 1 := (by omega); rcases h0 with rfl | rfl <;> rfl) | (intro i hi; have h0 : i = 0 ∨ i = 1 ∨ i = 2 := (by omega); rcases h0 with rfl | rfl | rfl <;> rfl)) ?_ | apply_assumption -exfalso -symm)
    all_goals (first | (show endQ _ _ _ _ _ _ _; (repeat (rename (∀ (A : Fr) (H : Hp), AWP _ _ _ _ A H → _) => hK; clear hK)); (repeat (rename (Fr → Hp → Prop) => K; clear K))) | (show Exists _; (repeat (rename (∀ (A : Fr) (H : Hp), AWP _ _ _ _ A H → _) => hK; clear hK)); (repeat (rename (Fr → Hp → Prop) => K; clear K))) | skip)
    · refine end_retB rfl rfl ?_
      simp only [Bool.false_eq_true, false_iff]
      intro h2; exact (h2.2 k (by omega)).2 i (by omega) ‹_›
    · refine ⟨i + 1, ?_, ?_, Sub.toL (by simp only [go_sem] <;> first | trivial | (simp only [Option.some.injEq, AV.v.injEq, AV.own.injEq, AV.list.injEq, Value.int.injEq, Value.bool.injEq, true_and, and_true]; first | omega | (simp; done)) | (simp; done) | (simp; omega)) (by (repeat' (first | exact Hp.le_emp _ | exact Hp.le_refl _ | refine Hp.le_upd ?_ ?_)); all_goals (first | rfl | (simp only [go_sem]; first | rfl | (refine cellsE ?_ ?_ <;> (simp)) | (simp))))⟩
      · refine ⟨by omega, fun j hj => ?_⟩
        by_cases h' : j = i
        · subst h'; assumption
        · exact hi.2 j (by omega)
      · omega
    · refine ⟨k + 1, ?_, ?_, Sub.toL (by simp only [go_sem] <;> first | trivial | (simp only [Option.some.injEq, AV.v.injEq, AV.own.injEq, AV.list.injEq, Value.int.injEq, Value.bool.injEq, true_and, and_true]; first | omega | (simp; done)) | (simp; done) | (simp; omega)) (by (repeat' (first | exact Hp.le_emp _ | exact Hp.le_refl _ | refine Hp.le_upd ?_ ?_)); all_goals (first | rfl | (simp only [go_sem]; first | rfl | (refine cellsE ?_ ?_ <;> (simp)) | (simp))))⟩
      · refine ⟨by omega, fun j hj => ?_⟩
        by_cases h' : j = k
        · subst h'; exact ⟨by omega, fun m hm => hi.2 m (by omega)⟩
        · exact hk.2 j (by omega)
      · omega
  · refine end_retB rfl rfl ?_
    simp only [Bool.false_eq_true, false_iff]
    intro h2; exact ‹¬ (_ ∧ _)› (h2.2 k (by omega)).1
  · refine end_retB rfl rfl ?_
    rw [decide_eq_true_eq]
    exact ⟨fun h => ⟨by omega, fun j hj => hk.2 j (by omega)⟩, fun h => by omega⟩

theorem implIsValidPuzzle_ok (p : Pz) (hs : p.s.size ≤ 140737488355328) : AC Try.prog 85 [pz p] Hp.emp (fun _ => false) (retV (.v (.bool (decide (isPz p))))) := by
  refine ac_of_awp (N := ⟨_, fun _ => false, fun _ _ => rfl⟩) Try.func85 rfl (by kernel_rfl) Try.ntmps85 (by simp) ?_
  simp only [argsFr, List.zipIdx_cons, List.zipIdx_nil, go_sem]
  repeat' (first | refine awp_seqK fun K hK => ?_ | (refine awp_regionK 7 rfl ?_; simp only [List.map_cons, List.map_nil]; simp (maxSteps := 1000000) (dsimp := false) (implicitDefEqProofs := false) (disch := omega) only [wrap64, go_sem]) | (refine awp_regionQK 7 (by kernel_rfl) (by kernel_rfl) (by kernel_rfl) ?_; simp only [List.map_cons, List.map_nil]; simp (maxSteps := 1000000) (dsimp := false) (implicitDefEqProofs := false) (disch := omega) only [wrap64, go_sem]) | refine awp_block ?_ | (refine awp_skip ?_; simp only [go_sem]) | (refine awp_exit ?_; simp only [go_sem]) | (refine awp_ret ?_; try simp only [go_sem]) | (refine awp_condP rfl ?_; try simp only [go_sem]) | (refine BrP.mk (fun h => ?_) (fun h => ?_) <;> try simp (dsimp := false) (disch := omega) only [wrap64]) | (refine Br.mk (fun h => ?_) (fun h => ?_) <;> try simp (dsimp := false) (disch := omega) only [wrap64]) | refine Ob.mk (by first | omega | (intro _ _; rfl) | trivial | (intros; trivial) | assumption | (intro i hi; have h0 : i = 0 := (by omega); subst h0; first | rfl | trivial) | (intro i hi; have h0 : i = 0 ∨ i = 1 := (by omega); rcases h0 with rfl | rfl <;> rfl) | (intro i hi; have h0 : i = 0 ∨ i = 1 ∨ i = 2 := (by omega); rcases h0 with rfl | rfl | rfl <;> rfl)) ?_ | ((first | ((first | refine atF (f := 135) ?_ | refine atQ (f := 135) ?_); (first | (refine cV (hac := implIsGeneratorSet_ok _ _) (hK := ?_)) | (refine cQV (hac := implIsGeneratorSet_ok _ _) (hK := ?_)))) | ((first | refine atF (f := 136) ?_ | refine atQ (f := 136) ?_); (first | (refine cV (hac := isNames_ok _ hs) (hK := ?_)) | (refine cQV (hac := isNames_ok _ hs) (hK := ?_))))); simp (maxSteps := 1000000) (dsimp := false) (implicitDefEqProofs := false) (disch := omega) only [wrap64, go_sem]) | apply_assumption -exfalso -symm)
  all_goals (first | (show endQ _ _ _ _ _ _ _; (repeat (rename (∀ (A : Fr) (H : Hp), AWP _ _ _ _ A H → _) => hK; clear hK)); (repeat (rename (Fr → Hp → Prop) => K; clear K))) | (show Exists _; (repeat (rename (∀ (A : Fr) (H : Hp), AWP _ _ _ _ A H → _) => hK; clear hK)); (repeat (rename (Fr → Hp → Prop) => K; clear K))) | skip)
  all_goals
    refine end_retB rfl rfl ?_
    simp only [decide_eq_true_eq, Bool.false_eq_true, false_iff, isPz]
  · rename_i h1
    exact ⟨fun e => ⟨h1, by have := h.1; omega, by omega, h.2⟩, fun e => by have := e.2.2.1; omega⟩
  · intro e
    refine h ⟨?_, e.2.2.2⟩
    have := e.1.2.1; have := e.2.1; have := e.2.2.1; omega
  · intro e; exact absurd e.1 h

theorem szGo_in : ∀ (xss : List (List Int)) (l : Int), l ≤ 1048576 → ¬ szGo xss l < 0 → ∀ x ∈ xss, x.length ≤ 1048576
  | [], _, _, _, x, hx => by cases hx
  | a :: r, l, hl, h, x, hx => by
    simp only [szGo] at h
    split at h
    · exact absurd (by omega) h
    · rename_i h1
      have h2 : szI a l ≤ 1048576 ∧ a.length ≤ 1048576 := by
        unfold szI at h1 ⊢; split at h1 <;> simp_all <;> omega
      simp only [List.mem_cons] at hx
      rcases hx with rfl | hx
      · exact h2.2
      · exact szGo_in r _ h2.1 h x hx
theorem szP_len {p : Pz} (h : ¬ szP p 1048576 < 0) : p.m.length ≤ 1048576 := by
  unfold szP at h
  split at h
  · omega
  · split at h
    · omega
    · rename_i h1 h2; unfold szII at h2; split at h2 <;> omega
theorem szP_in {p : Pz} (h : ¬ szP p 1048576 < 0) : ∀ j, (p.m.getD j []).length ≤ 1048576 := by
  intro j
  unfold szP at h
  split at h
  · omega
  · split at h
    · omega
    · rename_i h1 h2
      unfold szII at h2
      split at h2
      · omega
      · by_cases hj : j < p.m.length
        · have e : p.m.getD j [] = p.m[j] := by simp [hj]
          rw [e]
          exact szGo_in p.m _ (by omega) h2 _ (List.getElem_mem hj)
        · have e : p.m.getD j [] = [] := by simp [List.getElem?_eq_none (by omega : p.m.length ≤ j)]
          rw [e]; simp

theorem szP_str {p : Pz} (h : ¬ szP p 1048576 < 0) : p.s.size ≤ 1048576 := by
  unfold szP at h
  split at h
  · omega
  · split at h <;> omega
theorem szP_str' {p : Pz} (h : ¬ szP p 1048576 < 0) : p.s.size ≤ 140737488355328 := by have := szP_str h; omega
end Go.Proofs.Ytdllbnchcjgcdaa
end
