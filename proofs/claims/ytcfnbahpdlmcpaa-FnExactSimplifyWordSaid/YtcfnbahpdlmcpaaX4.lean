import Derived.Test.YtcfnbahpdlmcpaaX9
import Derived.Test.YtcfnbahpdlmcpaaX2
section
namespace Go.Proofs.Ytcfnbahpdlmcpaa
open Go.Av
set_option linter.unusedSimpArgs false
set_option linter.unusedVariables false
attribute [local irreducible] AWP CallG Ob Br BrP Go.Av.Sub endQ AOps OpV AC thenA blkA opsVC opVC withA withArgs opsQ opQ CallQ withA2 withArgs2

theorem fill_step (xs : List Int) (k : Nat) (h : k < xs.length) : (xs.take k ++ List.replicate (xs.length - k) 0).set k (xs.getD k 0) = xs.take (k + 1) ++ List.replicate (xs.length - (k + 1)) 0 := by
  have e : xs.getD k 0 = xs[k] := by simp [h]
  rw [e, List.set_append_right _ _ (by simp; omega), List.take_succ_eq_append_getElem h]
  simp only [List.length_take, Nat.min_eq_left (Nat.le_of_lt h), Nat.sub_self, List.append_assoc]
  rw [show xs.length - k = (xs.length - (k + 1)) + 1 by omega, List.replicate_succ, List.set_cons_zero]
  rfl

set_option maxHeartbeats 400000 in
theorem toInt64S_ok (xs : List Int) (hx : xs.length ≤ 1048576) (d : Nat) : AC Try.prog 48 [ints xs] Hp.emp (fun _ => false) (retI d xs) := by
  refine ac_of_awp (N := ⟨_, fun _ => false, fun _ _ => rfl⟩) Try.func48 rfl (by kernel_rfl) Try.ntmps48 (by simp) ?_
  simp only [argsFr, List.zipIdx_cons, List.zipIdx_nil, go_sem]
  repeat' (first | refine awp_seqK fun K hK => ?_ | (refine awp_regionK 2077 rfl ?_; simp only [List.map_cons, List.map_nil]; simp (maxSteps := 1000000) (dsimp := false) (implicitDefEqProofs := false) (disch := omega) only [wrap64, go_sem]) | (refine awp_regionQK 2077 (by kernel_rfl) (by kernel_rfl) (by kernel_rfl) ?_; simp only [List.map_cons, List.map_nil]; simp (maxSteps := 1000000) (dsimp := false) (implicitDefEqProofs := false) (disch := omega) only [wrap64, go_sem]) | refine awp_block ?_ | (refine awp_skip ?_; simp only [go_sem]) | (refine awp_exit ?_; simp only [go_sem]) | (refine awp_ret ?_; try simp only [go_sem]) | (refine awp_condP rfl ?_; try simp only [go_sem]) | (refine BrP.mk (fun h => ?_) (fun h => ?_) <;> try simp (dsimp := false) (disch := omega) only [wrap64]) | (refine Br.mk (fun h => ?_) (fun h => ?_) <;> try simp (dsimp := false) (disch := omega) only [wrap64]) | refine Ob.mk (by first | omega | (intro _ _; rfl) | trivial | (intros; trivial) | assumption | (intro i hi; have h0 : i = 0 := (by omega); subst h0; first | rfl | trivial) | (intro i hi; have h0 : i = 0 ∨ i = 1 := (by omega); rcases h0 with rfl | rfl <;> rfl) | (intro i hi; have h0 : i = 0 ∨ i = 1 ∨ i = 2 := (by omega); rcases h0 with rfl | rfl | rfl <;> rfl)) ?_ | apply_assumption -exfalso -symm)
  all_goals (first | (show endQ _ _ _ _ _ _ _; (repeat (rename (∀ (A : Fr) (H : Hp), AWP _ _ _ _ A H → _) => hK; clear hK)); (repeat (rename (Fr → Hp → Prop) => K; clear K))) | (show Exists _; (repeat (rename (∀ (A : Fr) (H : Hp), AWP _ _ _ _ A H → _) => hK; clear hK)); (repeat (rename (Fr → Hp → Prop) => K; clear K))) | skip)
  refine awp_loop (ι := Nat) (fun k => [(4, .v (.int .i64 k)), (3, .own 7 0 1 xs.length), (0, .list false 1 xs.length (cM iv 0 xs))]) (fun k => Hp.emp.upd 7 (.cells xs.length (cM iv 0 (xs.take k ++ List.replicate (xs.length - k) 0)))) (fun k => k ≤ xs.length) (fun k => xs.length - k) 0 (Nat.zero_le _) (Sub.fr (by simp only [go_sem]; trivial)) ?_
  intro k hk
  have hl : (xs.take k ++ List.replicate (xs.length - k) 0).length = xs.length := by simp; omega
  repeat' (first | refine awp_seqK fun K hK => ?_ | (refine awp_regionK 2077 rfl ?_; simp only [List.map_cons, List.map_nil]; simp (maxSteps := 1000000) (dsimp := false) (implicitDefEqProofs := false) (disch := omega) only [wrap64, go_sem]) | (refine awp_regionQK 2077 (by kernel_rfl) (by kernel_rfl) (by kernel_rfl) ?_; simp only [List.map_cons, List.map_nil]; simp (maxSteps := 1000000) (dsimp := false) (implicitDefEqProofs := false) (disch := omega) only [wrap64, go_sem]) | refine awp_block ?_ | (refine awp_skip ?_; simp only [go_sem]) | (refine awp_exit ?_; simp only [go_sem]) | (refine awp_ret ?_; try simp only [go_sem]) | (refine awp_condP rfl ?_; try simp only [go_sem]) | (refine BrP.mk (fun h => ?_) (fun h => ?_) <;> try simp (dsimp := false) (disch := omega) only [wrap64]) | (refine Br.mk (fun h => ?_) (fun h => ?_) <;> try simp (dsimp := false) (disch := omega) only [wrap64]) | refine Ob.mk (by first | omega | (intro _ _; rfl) | trivial | (intros; trivial) | assumption | (intro i hi; have h0 : i = 0 := (by omega); subst h0; first | rfl | trivial) | (intro i hi; have h0 : i = 0 ∨ i = 1 := (by omega); rcases h0 with rfl | rfl <;> rfl) | (intro i hi; have h0 : i = 0 ∨ i = 1 ∨ i = 2 := (by omega); rcases h0 with rfl | rfl | rfl <;> rfl)) ?_ | apply_assumption -exfalso -symm)
  all_goals (first | (show endQ _ _ _ _ _ _ _; (repeat (rename (∀ (A : Fr) (H : Hp), AWP _ _ _ _ A H → _) => hK; clear hK)); (repeat (rename (Fr → Hp → Prop) => K; clear K))) | (show Exists _; (repeat (rename (∀ (A : Fr) (H : Hp), AWP _ _ _ _ A H → _) => hK; clear hK)); (repeat (rename (Fr → Hp → Prop) => K; clear K))) | skip)
  · have h' : k < xs.length := by omega
    refine ⟨k + 1, by omega, by omega, Sub.to (by simp only [go_sem]; trivial) (fun h B hB => ?_)⟩
    rw [fill_step xs k h']; exact hB
  · have h' : k = xs.length := by omega
    subst h'
    exact end_retI rfl rfl (by simp [Hp.upd]) rfl rfl
end Go.Proofs.Ytcfnbahpdlmcpaa
end
section
namespace Go.Proofs.Ytcfnbahpdlmcpaa
open Go.Av
set_option linter.unusedSimpArgs false
set_option linter.unusedVariables false
attribute [local irreducible] AWP CallG Ob Br BrP Go.Av.Sub endQ AOps OpV AC thenA blkA opsVC opVC withA withArgs opsQ opQ CallQ withA2 withArgs2

theorem inRange_ok (x lo hi : Int) : AC Try.prog 132 [.v (.int .i64 (x)), .v (.int .i64 (lo)), .v (.int .i64 (hi))] Hp.emp (fun _ => false) (retV (.v (.bool (decide (lo ≤ x ∧ x ≤ hi))))) := by
  refine ac_of_awp (N := ⟨_, fun _ => false, fun _ _ => rfl⟩) Try.func132 rfl (by kernel_rfl) Try.ntmps132 (by simp) ?_
  simp only [argsFr, List.zipIdx_cons, List.zipIdx_nil, go_sem]
  repeat' (first | refine awp_seqK fun K hK => ?_ | (refine awp_regionK 71 rfl ?_; simp only [List.map_cons, List.map_nil]; simp (maxSteps := 1000000) (dsimp := false) (implicitDefEqProofs := false) (disch := omega) only [wrap64, go_sem]) | (refine awp_regionQK 71 (by kernel_rfl) (by kernel_rfl) (by kernel_rfl) ?_; simp only [List.map_cons, List.map_nil]; simp (maxSteps := 1000000) (dsimp := false) (implicitDefEqProofs := false) (disch := omega) only [wrap64, go_sem]) | refine awp_block ?_ | (refine awp_skip ?_; simp only [go_sem]) | (refine awp_exit ?_; simp only [go_sem]) | (refine awp_ret ?_; try simp only [go_sem]) | (refine awp_condP rfl ?_; try simp only [go_sem]) | (refine BrP.mk (fun h => ?_) (fun h => ?_) <;> try simp (dsimp := false) (disch := omega) only [wrap64]) | (refine Br.mk (fun h => ?_) (fun h => ?_) <;> try simp (dsimp := false) (disch := omega) only [wrap64]) | refine Ob.mk (by first | omega | (intro _ _; rfl) | trivial | (intros; trivial) | assumption | (intro i hi; have h0 : i = 0 := (by omega); subst h0; first | rfl | trivial) | (intro i hi; have h0 : i = 0 ∨ i = 1 := (by omega); rcases h0 with rfl | rfl <;> rfl) | (intro i hi; have h0 : i = 0 ∨ i = 1 ∨ i = 2 := (by omega); rcases h0 with rfl | rfl | rfl <;> rfl)) ?_ | apply_assumption -exfalso -symm)
  all_goals (first | (show endQ _ _ _ _ _ _ _; (repeat (rename (∀ (A : Fr) (H : Hp), AWP _ _ _ _ A H → _) => hK; clear hK)); (repeat (rename (Fr → Hp → Prop) => K; clear K))) | (show Exists _; (repeat (rename (∀ (A : Fr) (H : Hp), AWP _ _ _ _ A H → _) => hK; clear hK)); (repeat (rename (Fr → Hp → Prop) => K; clear K))) | skip)
  all_goals (refine end_retB rfl rfl ?_; simp only [decide_eq_true_eq, Bool.false_eq_true, false_iff, true_iff, iff_true, iff_false, Bool.not_eq_true', decide_eq_false_iff_not]; omega)

theorem within_ok (x lo hi : Int) : AC Try.prog 138 [.v (.int .i64 (x)), .v (.int .i64 (lo)), .v (.int .i64 (hi))] Hp.emp (fun _ => false) (retV (.v (.bool (decide (lo ≤ x ∧ x ≤ hi))))) := by
  refine ac_of_awp (N := ⟨_, fun _ => false, fun _ _ => rfl⟩) Try.func138 rfl (by kernel_rfl) Try.ntmps138 (by simp) ?_
  simp only [argsFr, List.zipIdx_cons, List.zipIdx_nil, go_sem]
  repeat' (first | refine awp_seqK fun K hK => ?_ | (refine awp_regionK 71 rfl ?_; simp only [List.map_cons, List.map_nil]; simp (maxSteps := 1000000) (dsimp := false) (implicitDefEqProofs := false) (disch := omega) only [wrap64, go_sem]) | (refine awp_regionQK 71 (by kernel_rfl) (by kernel_rfl) (by kernel_rfl) ?_; simp only [List.map_cons, List.map_nil]; simp (maxSteps := 1000000) (dsimp := false) (implicitDefEqProofs := false) (disch := omega) only [wrap64, go_sem]) | refine awp_block ?_ | (refine awp_skip ?_; simp only [go_sem]) | (refine awp_exit ?_; simp only [go_sem]) | (refine awp_ret ?_; try simp only [go_sem]) | (refine awp_condP rfl ?_; try simp only [go_sem]) | (refine BrP.mk (fun h => ?_) (fun h => ?_) <;> try simp (dsimp := false) (disch := omega) only [wrap64]) | (refine Br.mk (fun h => ?_) (fun h => ?_) <;> try simp (dsimp := false) (disch := omega) only [wrap64]) | refine Ob.mk (by first | omega | (intro _ _; rfl) | trivial | (intros; trivial) | assumption | (intro i hi; have h0 : i = 0 := (by omega); subst h0; first | rfl | trivial) | (intro i hi; have h0 : i = 0 ∨ i = 1 := (by omega); rcases h0 with rfl | rfl <;> rfl) | (intro i hi; have h0 : i = 0 ∨ i = 1 ∨ i = 2 := (by omega); rcases h0 with rfl | rfl | rfl <;> rfl)) ?_ | apply_assumption -exfalso -symm)
  all_goals (first | (show endQ _ _ _ _ _ _ _; (repeat (rename (∀ (A : Fr) (H : Hp), AWP _ _ _ _ A H → _) => hK; clear hK)); (repeat (rename (Fr → Hp → Prop) => K; clear K))) | (show Exists _; (repeat (rename (∀ (A : Fr) (H : Hp), AWP _ _ _ _ A H → _) => hK; clear hK)); (repeat (rename (Fr → Hp → Prop) => K; clear K))) | skip)
  all_goals (refine end_retB rfl rfl ?_; simp only [decide_eq_true_eq, Bool.false_eq_true, false_iff, true_iff, iff_true, iff_false, Bool.not_eq_true', decide_eq_false_iff_not]; omega)

theorem length_ok (xs : List Int) : AC Try.prog 139 [ints xs] Hp.emp (fun _ => false) (retV (.v (.int .i64 (xs.length)))) := by
  refine ac_of_awp (N := ⟨_, fun _ => false, fun _ _ => rfl⟩) Try.func139 rfl (by kernel_rfl) Try.ntmps139 (by simp) ?_
  simp only [argsFr, List.zipIdx_cons, List.zipIdx_nil, go_sem]
  repeat' (first | refine awp_seqK fun K hK => ?_ | (refine awp_regionK 5 rfl ?_; simp only [List.map_cons, List.map_nil]; simp (maxSteps := 1000000) (dsimp := false) (implicitDefEqProofs := false) (disch := omega) only [wrap64, go_sem]) | (refine awp_regionQK 5 (by kernel_rfl) (by kernel_rfl) (by kernel_rfl) ?_; simp only [List.map_cons, List.map_nil]; simp (maxSteps := 1000000) (dsimp := false) (implicitDefEqProofs := false) (disch := omega) only [wrap64, go_sem]) | refine awp_block ?_ | (refine awp_skip ?_; simp only [go_sem]) | (refine awp_exit ?_; simp only [go_sem]) | (refine awp_ret ?_; try simp only [go_sem]) | (refine awp_condP rfl ?_; try simp only [go_sem]) | (refine BrP.mk (fun h => ?_) (fun h => ?_) <;> try simp (dsimp := false) (disch := omega) only [wrap64]) | (refine Br.mk (fun h => ?_) (fun h => ?_) <;> try simp (dsimp := false) (disch := omega) only [wrap64]) | refine Ob.mk (by first | omega | (intro _ _; rfl) | trivial | (intros; trivial) | assumption | (intro i hi; have h0 : i = 0 := (by omega); subst h0; first | rfl | trivial) | (intro i hi; have h0 : i = 0 ∨ i = 1 := (by omega); rcases h0 with rfl | rfl <;> rfl) | (intro i hi; have h0 : i = 0 ∨ i = 1 ∨ i = 2 := (by omega); rcases h0 with rfl | rfl | rfl <;> rfl)) ?_ | apply_assumption -exfalso -symm)
  all_goals (first | (show endQ _ _ _ _ _ _ _; (repeat (rename (∀ (A : Fr) (H : Hp), AWP _ _ _ _ A H → _) => hK; clear hK)); (repeat (rename (Fr → Hp → Prop) => K; clear K))) | (show Exists _; (repeat (rename (∀ (A : Fr) (H : Hp), AWP _ _ _ _ A H → _) => hK; clear hK)); (repeat (rename (Fr → Hp → Prop) => K; clear K))) | skip)
  exact end_retV rfl rfl

theorem eq_of_getD {xs ys : List Int} (hl : xs.length = ys.length) (h : ∀ j, j < xs.length → xs.getD j 0 = ys.getD j 0) : xs = ys := by
  refine List.ext_getElem hl fun i h1 h2 => ?_
  have := h i h1
  simpa [h1, h2] using this

theorem eqInt64S_ok (xs ys : List Int) (hx : xs.length ≤ 1048576) : AC Try.prog 50 [ints xs, ints ys] Hp.emp (fun _ => false) (retV (.v (.bool (decide (xs = ys))))) := by
  refine ac_of_awp (N := ⟨_, fun _ => false, fun _ _ => rfl⟩) Try.func50 rfl (by kernel_rfl) Try.ntmps50 (by simp) ?_
  simp only [argsFr, List.zipIdx_cons, List.zipIdx_nil, go_sem]
  repeat' (first | refine awp_seqK fun K hK => ?_ | (refine awp_regionK 33571891 rfl ?_; simp only [List.map_cons, List.map_nil]; simp (maxSteps := 1000000) (dsimp := false) (implicitDefEqProofs := false) (disch := omega) only [wrap64, go_sem]) | (refine awp_regionQK 33571891 (by kernel_rfl) (by kernel_rfl) (by kernel_rfl) ?_; simp only [List.map_cons, List.map_nil]; simp (maxSteps := 1000000) (dsimp := false) (implicitDefEqProofs := false) (disch := omega) only [wrap64, go_sem]) | refine awp_block ?_ | (refine awp_skip ?_; simp only [go_sem]) | (refine awp_exit ?_; simp only [go_sem]) | (refine awp_ret ?_; try simp only [go_sem]) | (refine awp_condP rfl ?_; try simp only [go_sem]) | (refine BrP.mk (fun h => ?_) (fun h => ?_) <;> try simp (dsimp := false) (disch := omega) only [wrap64]) | (refine Br.mk (fun h => ?_) (fun h => ?_) <;> try simp (dsimp := false) (disch := omega) only [wrap64]) | refine Ob.mk (by first | omega | (intro _ _; rfl) | trivial | (intros; trivial) | assumption | (intro i hi; have h0 : i = 0 := (by omega); subst h0; first | rfl | trivial) | (intro i hi; have h0 : i = 0 ∨ i = 1 := (by omega); rcases h0 with rfl | rfl <;> rfl) | (intro i hi; have h0 : i = 0 ∨ i = 1 ∨ i = 2 := (by omega); rcases h0 with rfl | rfl | rfl <;> rfl)) ?_ | apply_assumption -exfalso -symm)
  all_goals (first | (show endQ _ _ _ _ _ _ _; (repeat (rename (∀ (A : Fr) (H : Hp), AWP _ _ _ _ A H → _) => hK; clear hK)); (repeat (rename (Fr → Hp → Prop) => K; clear K))) | (show Exists _; (repeat (rename (∀ (A : Fr) (H : Hp), AWP _ _ _ _ A H → _) => hK; clear hK)); (repeat (rename (Fr → Hp → Prop) => K; clear K))) | skip)
  · have hl : xs.length = ys.length := by omega
    refine awp_loop (ι := Nat) (fun k => [(5, .v (.int .i64 (k))), (0, .list false 1 (xs).length (cM iv 0 (xs))), (1, .list false 1 (ys).length (cM iv 0 (ys)))]) (fun k => Hp.emp) (fun k => k ≤ xs.length ∧ ∀ j, j < k → xs.getD j 0 = ys.getD j 0) (fun k => xs.length - k) 0 ?_ (Sub.toL (by simp only [go_sem] <;> first | trivial | (simp only [Option.some.injEq, AV.v.injEq, AV.own.injEq, AV.list.injEq, Value.int.injEq, Value.bool.injEq, true_and, and_true]; first | omega | (simp; done)) | (simp; done) | (simp; omega)) (by (repeat' (first | exact Hp.le_emp _ | exact Hp.le_refl _ | refine Hp.le_upd ?_ ?_)); all_goals (first | rfl | (simp only [go_sem]; first | rfl | (refine cellsE ?_ ?_ <;> (simp)) | (simp))))) ?_
    · exact ⟨Nat.zero_le _, fun j h => absurd h (Nat.not_lt_zero _)⟩
    intro k hk
    repeat' (first | refine awp_seqK fun K hK => ?_ | (refine awp_regionK 33571891 rfl ?_; simp only [List.map_cons, List.map_nil]; simp (maxSteps := 1000000) (dsimp := false) (implicitDefEqProofs := false) (disch := omega) only [wrap64, go_sem]) | (refine awp_regionQK 33571891 (by kernel_rfl) (by kernel_rfl) (by kernel_rfl) ?_; simp only [List.map_cons, List.map_nil]; simp (maxSteps := 1000000) (dsimp := false) (implicitDefEqProofs := false) (disch := omega) only [wrap64, go_sem]) | refine awp_block ?_ | (refine awp_skip ?_; simp only [go_sem]) | (refine awp_exit ?_; simp only [go_sem]) | (refine awp_ret ?_; try simp only [go_sem]) | (refine awp_condP rfl ?_; try simp only [go_sem]) | (refine BrP.mk (fun h => ?_) (fun h => ?_) <;> try simp (dsimp := false) (disch := omega) only [wrap64]) | (refine Br.mk (fun h => ?_) (fun h => ?_) <;> try simp (dsimp := false) (disch := omega) only [wrap64]) | refine Ob.mk (by first | omega | (intro _ _; rfl) | trivial | (intros; trivial) | assumption | (intro i hi; have h0 : i = 0 := (by omega); subst h0; first | rfl | trivial) | (intro i hi; have h0 : i = 0 ∨ i = 1 := (by omega); rcases h0 with rfl | rfl <;> rfl) | (intro i hi; have h0 : i = 0 ∨ i = 1 ∨ i = 2 := (by omega); rcases h0 with rfl | rfl | rfl <;> rfl)) ?_ | apply_assumption -exfalso -symm)
    all_goals (first | (show endQ _ _ _ _ _ _ _; (repeat (rename (∀ (A : Fr) (H : Hp), AWP _ _ _ _ A H → _) => hK; clear hK)); (repeat (rename (Fr → Hp → Prop) => K; clear K))) | (show Exists _; (repeat (rename (∀ (A : Fr) (H : Hp), AWP _ _ _ _ A H → _) => hK; clear hK)); (repeat (rename (Fr → Hp → Prop) => K; clear K))) | skip)
    · refine ⟨k + 1, ?_, ?_, Sub.toL (by simp only [go_sem] <;> first | trivial | (simp only [Option.some.injEq, AV.v.injEq, AV.own.injEq, AV.list.injEq, Value.int.injEq, Value.bool.injEq, true_and, and_true]; first | omega | (simp; done)) | (simp; done) | (simp; omega)) (by (repeat' (first | exact Hp.le_emp _ | exact Hp.le_refl _ | refine Hp.le_upd ?_ ?_)); all_goals (first | rfl | (simp only [go_sem]; first | rfl | (refine cellsE ?_ ?_ <;> (simp)) | (simp))))⟩
      · refine ⟨by omega, fun j hj => ?_⟩
        by_cases h' : j = k
        · subst h'; exact h
        · exact hk.2 j (by omega)
      · omega
    · refine end_retB rfl rfl ?_
      simp only [Bool.false_eq_true, false_iff]
      rintro rfl
      exact h rfl
    · refine end_retB rfl rfl ?_
      simp only [true_iff]
      exact eq_of_getD hl fun j hj => hk.2 j (by omega)
  · exact end_retB rfl rfl (by simp; rintro rfl; simp at h)

/-- The numbers from k on. -/
def marks (k n : Nat) : List Int := (List.range n).map fun i => ((k + i : Nat) : Int)
theorem marks_length (k n : Nat) : (marks k n).length = n := by simp [marks]
theorem marks_getD (k n i : Nat) (h : i < n) : (marks k n).getD i 0 = ((k + i : Nat) : Int) := by simp [marks, h]
theorem marks_set (xs : List Int) (k i : Nat) (h : i < xs.length) : (marks k i ++ xs.drop i).set i ((k + i : Nat) : Int) = marks k (i + 1) ++ xs.drop (i + 1) := by
  rw [List.set_append_right _ _ (by simp [marks]), marks_length, Nat.sub_self, List.drop_eq_getElem_cons h, List.set_cons_zero]
  simp [marks, List.range_succ]

theorem markInt64S_ok (xs : List Int) (k : Nat) (hx : xs.length ≤ 1048576) (hk : k ≤ 1099511627776) (h : Nat) : AC Try.prog 53 [.own h 0 1 xs.length, .v (.int .i64 (k))] (Hp.emp.upd h (.cells xs.length (cM iv 0 xs))) (· == h) (postM h (.v (.int .i64 (((k + xs.length : Nat) : Int)))) (.cells xs.length (cM iv 0 (marks k xs.length)))) := by
  refine AC.any (h0 := 1000000) ?_ _ (fun _ => rfl) (fun _ => rfl) (fun _ => rfl) (fun _ => rfl)
  refine ac_of_awp (N := ⟨_, (· == 1000000), fun h hh => beq_eq_false_iff_ne.2 (Nat.ne_of_lt (Nat.lt_of_lt_of_le hh (by decide)))⟩) Try.func53 rfl (by kernel_rfl) Try.ntmps53 (by simp) ?_
  simp only [argsFr, List.zipIdx_cons, List.zipIdx_nil, go_sem]
  repeat' (first | refine awp_seqK fun K hK => ?_ | (refine awp_regionK 563 rfl ?_; simp only [List.map_cons, List.map_nil]; simp (maxSteps := 1000000) (dsimp := false) (implicitDefEqProofs := false) (disch := omega) only [wrap64, go_sem]) | (refine awp_regionQK 563 (by kernel_rfl) (by kernel_rfl) (by kernel_rfl) ?_; simp only [List.map_cons, List.map_nil]; simp (maxSteps := 1000000) (dsimp := false) (implicitDefEqProofs := false) (disch := omega) only [wrap64, go_sem]) | refine awp_block ?_ | (refine awp_skip ?_; simp only [go_sem]) | (refine awp_exit ?_; simp only [go_sem]) | (refine awp_ret ?_; try simp only [go_sem]) | (refine awp_condP rfl ?_; try simp only [go_sem]) | (refine BrP.mk (fun h => ?_) (fun h => ?_) <;> try simp (dsimp := false) (disch := omega) only [wrap64]) | (refine Br.mk (fun h => ?_) (fun h => ?_) <;> try simp (dsimp := false) (disch := omega) only [wrap64]) | refine Ob.mk (by first | omega | (intro _ _; rfl) | trivial | (intros; trivial) | assumption | (intro i hi; have h0 : i = 0 := (by omega); subst h0; first | rfl | trivial) | (intro i hi; have h0 : i = 0 ∨ i = 1 := (by omega); rcases h0 with rfl | rfl <;> rfl) | (intro i hi; have h0 : i = 0 ∨ i = 1 ∨ i = 2 := (by omega); rcases h0 with rfl | rfl | rfl <;> rfl)) ?_ | apply_assumption -exfalso -symm)
  all_goals (first | (show endQ _ _ _ _ _ _ _; (repeat (rename (∀ (A : Fr) (H : Hp), AWP _ _ _ _ A H → _) => hK; clear hK)); (repeat (rename (Fr → Hp → Prop) => K; clear K))) | (show Exists _; (repeat (rename (∀ (A : Fr) (H : Hp), AWP _ _ _ _ A H → _) => hK; clear hK)); (repeat (rename (Fr → Hp → Prop) => K; clear K))) | skip)
  refine awp_loop (ι := Nat) (fun i => [(1, .v (.int .i64 ((k + i : Nat)))), (0, .own 1000000 0 1 xs.length), (5, .v (.int .i64 (i)))]) (fun i => Hp.emp.upd 1000000 (.cells xs.length (cM iv 0 (marks k i ++ xs.drop i)))) (fun i => i ≤ xs.length) (fun i => xs.length - i) 0 ?_ (Sub.toL (by simp only [go_sem] <;> first | trivial | (simp only [Option.some.injEq, AV.v.injEq, AV.own.injEq, AV.list.injEq, Value.int.injEq, Value.bool.injEq, true_and, and_true]; first | omega | (simp [marks]; done)) | (simp [marks]; done) | (simp [marks]; omega)) (by (repeat' (first | exact Hp.le_emp _ | exact Hp.le_refl _ | refine Hp.le_upd ?_ ?_)); all_goals (first | rfl | (simp only [go_sem]; first | rfl | (refine cellsE ?_ ?_ <;> (simp [marks])) | (simp [marks]))))) ?_
  · exact Nat.zero_le _
  intro i hi
  have hl : (marks k i ++ xs.drop i).length = xs.length := by simp [marks]; omega
  repeat' (first | refine awp_seqK fun K hK => ?_ | (refine awp_regionK 563 rfl ?_; simp only [List.map_cons, List.map_nil]; simp (maxSteps := 1000000) (dsimp := false) (implicitDefEqProofs := false) (disch := omega) only [wrap64, go_sem]) | (refine awp_regionQK 563 (by kernel_rfl) (by kernel_rfl) (by kernel_rfl) ?_; simp only [List.map_cons, List.map_nil]; simp (maxSteps := 1000000) (dsimp := false) (implicitDefEqProofs := false) (disch := omega) only [wrap64, go_sem]) | refine awp_block ?_ | (refine awp_skip ?_; simp only [go_sem]) | (refine awp_exit ?_; simp only [go_sem]) | (refine awp_ret ?_; try simp only [go_sem]) | (refine awp_condP rfl ?_; try simp only [go_sem]) | (refine BrP.mk (fun h => ?_) (fun h => ?_) <;> try simp (dsimp := false) (disch := omega) only [wrap64]) | (refine Br.mk (fun h => ?_) (fun h => ?_) <;> try simp (dsimp := false) (disch := omega) only [wrap64]) | refine Ob.mk (by first | omega | (intro _ _; rfl) | trivial | (intros; trivial) | assumption | (intro i hi; have h0 : i = 0 := (by omega); subst h0; first | rfl | trivial) | (intro i hi; have h0 : i = 0 ∨ i = 1 := (by omega); rcases h0 with rfl | rfl <;> rfl) | (intro i hi; have h0 : i = 0 ∨ i = 1 ∨ i = 2 := (by omega); rcases h0 with rfl | rfl | rfl <;> rfl)) ?_ | apply_assumption -exfalso -symm)
  all_goals (first | (show endQ _ _ _ _ _ _ _; (repeat (rename (∀ (A : Fr) (H : Hp), AWP _ _ _ _ A H → _) => hK; clear hK)); (repeat (rename (Fr → Hp → Prop) => K; clear K))) | (show Exists _; (repeat (rename (∀ (A : Fr) (H : Hp), AWP _ _ _ _ A H → _) => hK; clear hK)); (repeat (rename (Fr → Hp → Prop) => K; clear K))) | skip)
  · refine ⟨i + 1, ?_, ?_, Sub.toL (by simp only [go_sem] <;> first | trivial | (simp only [Option.some.injEq, AV.v.injEq, AV.own.injEq, AV.list.injEq, Value.int.injEq, Value.bool.injEq, true_and, and_true]; first | omega | (simp; done)) | (simp; done) | (simp; omega)) (by (repeat' (first | exact Hp.le_emp _ | exact Hp.le_refl _ | refine Hp.le_upd ?_ ?_)); all_goals (first | rfl | (simp only [go_sem]; first | rfl | (refine cellsE ?_ ?_ <;> (rw [marks_set xs k i (by omega)])) | (rw [marks_set xs k i (by omega)]))))⟩
    all_goals omega
  · have e : i = xs.length := by omega
    subst e
    exact end_M rfl rfl (by simp [Hp.upd]) rfl

theorem heldInt64S_ok (xs : List Int) (k : Nat) (hx : xs.length ≤ 1048576) (hk : k ≤ 1099511627776) : AC Try.prog 54 [ints xs, .v (.int .i64 (k))] Hp.emp (fun _ => false) (retV (.v (.int .i64 (if xs = marks k xs.length then ((k + xs.length : Nat) : Int) else -1)))) := by
  refine ac_of_awp (N := ⟨_, fun _ => false, fun _ _ => rfl⟩) Try.func54 rfl (by kernel_rfl) Try.ntmps54 (by simp) ?_
  simp only [argsFr, List.zipIdx_cons, List.zipIdx_nil, go_sem]
  repeat' (first | refine awp_seqK fun K hK => ?_ | (refine awp_regionK 131635 rfl ?_; simp only [List.map_cons, List.map_nil]; simp (maxSteps := 1000000) (dsimp := false) (implicitDefEqProofs := false) (disch := omega) only [wrap64, go_sem]) | (refine awp_regionQK 131635 (by kernel_rfl) (by kernel_rfl) (by kernel_rfl) ?_; simp only [List.map_cons, List.map_nil]; simp (maxSteps := 1000000) (dsimp := false) (implicitDefEqProofs := false) (disch := omega) only [wrap64, go_sem]) | refine awp_block ?_ | (refine awp_skip ?_; simp only [go_sem]) | (refine awp_exit ?_; simp only [go_sem]) | (refine awp_ret ?_; try simp only [go_sem]) | (refine awp_condP rfl ?_; try simp only [go_sem]) | (refine BrP.mk (fun h => ?_) (fun h => ?_) <;> try simp (dsimp := false) (disch := omega) only [wrap64]) | (refine Br.mk (fun h => ?_) (fun h => ?_) <;> try simp (dsimp := false) (disch := omega) only [wrap64]) | refine Ob.mk (by first | omega | (intro _ _; rfl) | trivial | (intros; trivial) | assumption | (intro i hi; have h0 : i = 0 := (by omega); subst h0; first | rfl | trivial) | (intro i hi; have h0 : i = 0 ∨ i = 1 := (by omega); rcases h0 with rfl | rfl <;> rfl) | (intro i hi; have h0 : i = 0 ∨ i = 1 ∨ i = 2 := (by omega); rcases h0 with rfl | rfl | rfl <;> rfl)) ?_ | apply_assumption -exfalso -symm)
  all_goals (first | (show endQ _ _ _ _ _ _ _; (repeat (rename (∀ (A : Fr) (H : Hp), AWP _ _ _ _ A H → _) => hK; clear hK)); (repeat (rename (Fr → Hp → Prop) => K; clear K))) | (show Exists _; (repeat (rename (∀ (A : Fr) (H : Hp), AWP _ _ _ _ A H → _) => hK; clear hK)); (repeat (rename (Fr → Hp → Prop) => K; clear K))) | skip)
  refine awp_loop (ι := Nat) (fun i => [(1, .v (.int .i64 ((k + i : Nat)))), (0, .list false 1 (xs).length (cM iv 0 (xs))), (5, .v (.int .i64 (i)))]) (fun i => Hp.emp) (fun i => i ≤ xs.length ∧ ∀ j, j < i → xs.getD j 0 = (k + j : Nat)) (fun i => xs.length - i) 0 ?_ (Sub.toL (by simp only [go_sem] <;> first | trivial | (simp only [Option.some.injEq, AV.v.injEq, AV.own.injEq, AV.list.injEq, Value.int.injEq, Value.bool.injEq, true_and, and_true]; first | omega | (simp; done)) | (simp; done) | (simp; omega)) (by (repeat' (first | exact Hp.le_emp _ | exact Hp.le_refl _ | refine Hp.le_upd ?_ ?_)); all_goals (first | rfl | (simp only [go_sem]; first | rfl | (refine cellsE ?_ ?_ <;> (simp)) | (simp))))) ?_
  · exact ⟨Nat.zero_le _, fun j h => absurd h (Nat.not_lt_zero _)⟩
  intro i hi
  repeat' (first | refine awp_seqK fun K hK => ?_ | (refine awp_regionK 131635 rfl ?_; simp only [List.map_cons, List.map_nil]; simp (maxSteps := 1000000) (dsimp := false) (implicitDefEqProofs := false) (disch := omega) only [wrap64, go_sem]) | (refine awp_regionQK 131635 (by kernel_rfl) (by kernel_rfl) (by kernel_rfl) ?_; simp only [List.map_cons, List.map_nil]; simp (maxSteps := 1000000) (dsimp := false) (implicitDefEqProofs := false) (disch := omega) only [wrap64, go_sem]) | refine awp_block ?_ | (refine awp_skip ?_; simp only [go_sem]) | (refine awp_exit ?_; simp only [go_sem]) | (refine awp_ret ?_; try simp only [go_sem]) | (refine awp_condP rfl ?_; try simp only [go_sem]) | (refine BrP.mk (fun h => ?_) (fun h => ?_) <;> try simp (dsimp := false) (disch := omega) only [wrap64]) | (refine Br.mk (fun h => ?_) (fun h => ?_) <;> try simp (dsimp := false) (disch := omega) only [wrap64]) | refine Ob.mk (by first | omega | (intro _ _; rfl) | trivial | (intros; trivial) | assumption | (intro i hi; have h0 : i = 0 := (by omega); subst h0; first | rfl | trivial) | (intro i hi; have h0 : i = 0 ∨ i = 1 := (by omega); rcases h0 with rfl | rfl <;> rfl) | (intro i hi; have h0 : i = 0 ∨ i = 1 ∨ i = 2 := (by omega); rcases h0 with rfl | rfl | rfl <;> rfl)) ?_ | apply_assumption -exfalso -symm)
  all_goals (first | (show endQ _ _ _ _ _ _ _; (repeat (rename (∀ (A : Fr) (H : Hp), AWP _ _ _ _ A H → _) => hK; clear hK)); (repeat (rename (Fr → Hp → Prop) => K; clear K))) | (show Exists _; (repeat (rename (∀ (A : Fr) (H : Hp), AWP _ _ _ _ A H → _) => hK; clear hK)); (repeat (rename (Fr → Hp → Prop) => K; clear K))) | skip)
  · refine ⟨i + 1, ?_, ?_, Sub.toL (by simp only [go_sem] <;> first | trivial | (simp only [Option.some.injEq, AV.v.injEq, AV.own.injEq, AV.list.injEq, Value.int.injEq, Value.bool.injEq, true_and, and_true]; first | omega | (simp; done)) | (simp; done) | (simp; omega)) (by (repeat' (first | exact Hp.le_emp _ | exact Hp.le_refl _ | refine Hp.le_upd ?_ ?_)); all_goals (first | rfl | (simp only [go_sem]; first | rfl | (refine cellsE ?_ ?_ <;> (simp)) | (simp))))⟩
    · refine ⟨by omega, fun j hj => ?_⟩
      by_cases h' : j = i
      · subst h'; exact h
      · exact hi.2 j (by omega)
    · omega
  · refine end_retN rfl rfl ?_
    rw [if_neg]
    intro e
    have h' : i < xs.length := by omega
    rw [e, marks_getD k _ i h'] at h
    exact h rfl
  · have e : i = xs.length := by omega
    subst e
    refine end_retN rfl rfl ?_
    rw [if_pos (eq_of_getD (marks_length k _).symm fun j hj => by rw [hi.2 j hj, marks_getD k _ j hj])]
end Go.Proofs.Ytcfnbahpdlmcpaa
end
section
namespace Go.Proofs.Ytcfnbahpdlmcpaa
open Go.Av
set_option linter.unusedSimpArgs false
set_option linter.unusedVariables false
attribute [local irreducible] AWP CallG Ob Br BrP Go.Av.Sub endQ AOps OpV AC thenA blkA opsVC opVC withA withArgs opsQ opQ CallQ withA2 withArgs2

/-- A letter is one of g generators or an inverse. -/
def isL (g x : Int) : Prop := x ≠ 0 ∧ (-8 ≤ x ∧ x ≤ 8) ∧ x ≤ g ∧ -x ≤ g
instance (g x : Int) : Decidable (isL g x) := by unfold isL; infer_instance
def isW (g : Int) (w : List Int) : Prop := w.length ≤ 200 ∧ ∀ j, j < w.length → isL g (w.getD j 0)
instance (g : Int) (w : List Int) : Decidable (isW g w) := by unfold isW; infer_instance

theorem isWordOf_ok (g : Int) (w : List Int) : AC Try.prog 130 [.v (.int .i64 (g)), ints w] Hp.emp (fun _ => false) (retV (.v (.bool (decide (isW g w))))) := by
  refine ac_of_awp (N := ⟨_, fun _ => false, fun _ _ => rfl⟩) Try.func130 rfl (by kernel_rfl) Try.ntmps130 (by simp) ?_
  simp only [argsFr, List.zipIdx_cons, List.zipIdx_nil, go_sem]
  repeat' (first | refine awp_seqK fun K hK => ?_ | (refine awp_regionK 17592186048819 rfl ?_; simp only [List.map_cons, List.map_nil]; simp (maxSteps := 1000000) (dsimp := false) (implicitDefEqProofs := false) (disch := omega) only [wrap64, go_sem]) | (refine awp_regionQK 17592186048819 (by kernel_rfl) (by kernel_rfl) (by kernel_rfl) ?_; simp only [List.map_cons, List.map_nil]; simp (maxSteps := 1000000) (dsimp := false) (implicitDefEqProofs := false) (disch := omega) only [wrap64, go_sem]) | refine awp_block ?_ | (refine awp_skip ?_; simp only [go_sem]) | (refine awp_exit ?_; simp only [go_sem]) | (refine awp_ret ?_; try simp only [go_sem]) | (refine awp_condP rfl ?_; try simp only [go_sem]) | (refine BrP.mk (fun h => ?_) (fun h => ?_) <;> try simp (dsimp := false) (disch := omega) only [wrap64]) | (refine Br.mk (fun h => ?_) (fun h => ?_) <;> try simp (dsimp := false) (disch := omega) only [wrap64]) | refine Ob.mk (by first | omega | (intro _ _; rfl) | trivial | (intros; trivial) | assumption | (intro i hi; have h0 : i = 0 := (by omega); subst h0; first | rfl | trivial) | (intro i hi; have h0 : i = 0 ∨ i = 1 := (by omega); rcases h0 with rfl | rfl <;> rfl) | (intro i hi; have h0 : i = 0 ∨ i = 1 ∨ i = 2 := (by omega); rcases h0 with rfl | rfl | rfl <;> rfl)) ?_ | apply_assumption -exfalso -symm)
  all_goals (first | (show endQ _ _ _ _ _ _ _; (repeat (rename (∀ (A : Fr) (H : Hp), AWP _ _ _ _ A H → _) => hK; clear hK)); (repeat (rename (Fr → Hp → Prop) => K; clear K))) | (show Exists _; (repeat (rename (∀ (A : Fr) (H : Hp), AWP _ _ _ _ A H → _) => hK; clear hK)); (repeat (rename (Fr → Hp → Prop) => K; clear K))) | skip)
  · exact end_retB rfl rfl (by simp only [isW, Bool.false_eq_true, false_iff]; omega)
  refine awp_loop (ι := Nat) (fun k => [(5, .v (.int .i64 (k))), (0, .v (.int .i64 (g))), (1, .list false 1 (w).length (cM iv 0 (w)))]) (fun k => Hp.emp) (fun k => k ≤ w.length ∧ ∀ j, j < k → isL g (w.getD j 0)) (fun k => w.length - k) 0 ?_ (Sub.toL (by simp only [go_sem] <;> first | trivial | (simp only [Option.some.injEq, AV.v.injEq, AV.own.injEq, AV.list.injEq, Value.int.injEq, Value.bool.injEq, true_and, and_true]; first | omega | (simp; done)) | (simp; done) | (simp; omega)) (by (repeat' (first | exact Hp.le_emp _ | exact Hp.le_refl _ | refine Hp.le_upd ?_ ?_)); all_goals (first | rfl | (simp only [go_sem]; first | rfl | (refine cellsE ?_ ?_ <;> (simp)) | (simp))))) ?_
  · exact ⟨Nat.zero_le _, fun j h => absurd h (Nat.not_lt_zero _)⟩
  intro k hk
  repeat' (first | refine awp_seqK fun K hK => ?_ | (refine awp_regionK 17592186048819 rfl ?_; simp only [List.map_cons, List.map_nil]; simp (maxSteps := 1000000) (dsimp := false) (implicitDefEqProofs := false) (disch := omega) only [wrap64, go_sem]) | (refine awp_regionQK 17592186048819 (by kernel_rfl) (by kernel_rfl) (by kernel_rfl) ?_; simp only [List.map_cons, List.map_nil]; simp (maxSteps := 1000000) (dsimp := false) (implicitDefEqProofs := false) (disch := omega) only [wrap64, go_sem]) | refine awp_block ?_ | (refine awp_skip ?_; simp only [go_sem]) | (refine awp_exit ?_; simp only [go_sem]) | (refine awp_ret ?_; try simp only [go_sem]) | (refine awp_condP rfl ?_; try simp only [go_sem]) | (refine BrP.mk (fun h => ?_) (fun h => ?_) <;> try simp (dsimp := false) (disch := omega) only [wrap64]) | (refine Br.mk (fun h => ?_) (fun h => ?_) <;> try simp (dsimp := false) (disch := omega) only [wrap64]) | refine Ob.mk (by first | omega | (intro _ _; rfl) | trivial | (intros; trivial) | assumption | (intro i hi; have h0 : i = 0 := (by omega); subst h0; first | rfl | trivial) | (intro i hi; have h0 : i = 0 ∨ i = 1 := (by omega); rcases h0 with rfl | rfl <;> rfl) | (intro i hi; have h0 : i = 0 ∨ i = 1 ∨ i = 2 := (by omega); rcases h0 with rfl | rfl | rfl <;> rfl)) ?_ | ((first | ((first | refine atF (f := 132) ?_ | refine atQ (f := 132) ?_); (first | (refine cV (hac := inRange_ok _ _ _) (hK := ?_)) | (refine cQV (hac := inRange_ok _ _ _) (hK := ?_))))); simp (maxSteps := 1000000) (dsimp := false) (implicitDefEqProofs := false) (disch := omega) only [wrap64, go_sem]) | apply_assumption -exfalso -symm)
  all_goals (first | (show endQ _ _ _ _ _ _ _; (repeat (rename (∀ (A : Fr) (H : Hp), AWP _ _ _ _ A H → _) => hK; clear hK)); (repeat (rename (Fr → Hp → Prop) => K; clear K))) | (show Exists _; (repeat (rename (∀ (A : Fr) (H : Hp), AWP _ _ _ _ A H → _) => hK; clear hK)); (repeat (rename (Fr → Hp → Prop) => K; clear K))) | skip)
  all_goals first
    | (refine ⟨k + 1, ?_, ?_, Sub.toL (by simp only [go_sem] <;> first | trivial | (simp only [Option.some.injEq, AV.v.injEq, AV.own.injEq, AV.list.injEq, Value.int.injEq, Value.bool.injEq, true_and, and_true]; first | omega | (simp; done)) | (simp; done) | (simp; omega)) (by (repeat' (first | exact Hp.le_emp _ | exact Hp.le_refl _ | refine Hp.le_upd ?_ ?_)); all_goals (first | rfl | (simp only [go_sem]; first | rfl | (refine cellsE ?_ ?_ <;> (simp)) | (simp))))⟩
       · refine ⟨by omega, fun j hj => ?_⟩
         by_cases h' : j = k
         · subst h'; unfold isL; omega
         · exact hk.2 j (by omega)
       · omega)
    | (refine end_retB rfl rfl ?_
       simp only [decide_eq_true_eq, Bool.false_eq_true, false_iff, true_iff, isW]
       first
       | (rintro ⟨h1, h2⟩; have := h2 k (by omega); unfold isL at this; omega)
       | exact ⟨by omega, fun j hj => hk.2 j (by omega)⟩)


def inv (w : List Int) : List Int := (w.map (- ·)).reverse
end Go.Proofs.Ytcfnbahpdlmcpaa
end
section
namespace Go.Proofs.Ytcfnbahpdlmcpaa
open Go.Av
set_option linter.unusedSimpArgs false
set_option linter.unusedVariables false
attribute [local irreducible] AWP CallG Ob Br BrP Go.Av.Sub endQ AOps OpV AC thenA blkA opsVC opVC withA withArgs opsQ opQ CallQ withA2 withArgs2

/-- The room that is left behind a row. -/
def szI (xs : List Int) (l : Int) : Int := if l - xs.length < 0 then -1 else l - xs.length
def szGo : List (List Int) → Int → Int
  | [], l => l
  | x :: r, l => if szI x l < 0 then -1 else szGo r (szI x l)
def szII (xss : List (List Int)) (l : Int) : Int := if l - xss.length < 0 then -1 else szGo xss (l - xss.length)
def szP (p : Pz) (l : Int) : Int := if l - p.s.size < 0 then -1 else if szII p.m (l - p.s.size) < 0 then -1 else szII p.m (l - p.s.size)
abbrev room : Nat := 9223372036854775807

theorem szInt64S_ok (xs : List Int) (l : Int) (hx : xs.length ≤ room) (hl : -1 ≤ l ∧ l ≤ 1048576) : AC Try.prog 247 [ints xs, .v (.int .i64 (l))] Hp.emp (fun _ => false) (retV (.v (.int .i64 (szI xs l)))) := by
  unfold room at hx
  refine ac_of_awp (N := ⟨_, fun _ => false, fun _ _ => rfl⟩) Try.func247 rfl (by kernel_rfl) Try.ntmps247 (by simp) ?_
  simp only [argsFr, List.zipIdx_cons, List.zipIdx_nil, go_sem]
  repeat' (first | refine awp_seqK fun K hK => ?_ | (refine awp_regionK 1043 rfl ?_; simp only [List.map_cons, List.map_nil]; simp (maxSteps := 1000000) (dsimp := false) (implicitDefEqProofs := false) (disch := omega) only [wrap64, go_sem]) | (refine awp_regionQK 1043 (by kernel_rfl) (by kernel_rfl) (by kernel_rfl) ?_; simp only [List.map_cons, List.map_nil]; simp (maxSteps := 1000000) (dsimp := false) (implicitDefEqProofs := false) (disch := omega) only [wrap64, go_sem]) | refine awp_block ?_ | (refine awp_skip ?_; simp only [go_sem]) | (refine awp_exit ?_; simp only [go_sem]) | (refine awp_ret ?_; try simp only [go_sem]) | (refine awp_condP rfl ?_; try simp only [go_sem]) | (refine BrP.mk (fun h => ?_) (fun h => ?_) <;> try simp (dsimp := false) (disch := omega) only [wrap64]) | (refine Br.mk (fun h => ?_) (fun h => ?_) <;> try simp (dsimp := false) (disch := omega) only [wrap64]) | refine Ob.mk (by first | omega | (intro _ _; rfl) | trivial | (intros; trivial) | assumption | (intro i hi; have h0 : i = 0 := (by omega); subst h0; first | rfl | trivial) | (intro i hi; have h0 : i = 0 ∨ i = 1 := (by omega); rcases h0 with rfl | rfl <;> rfl) | (intro i hi; have h0 : i = 0 ∨ i = 1 ∨ i = 2 := (by omega); rcases h0 with rfl | rfl | rfl <;> rfl)) ?_ | apply_assumption -exfalso -symm)
  all_goals (first | (show endQ _ _ _ _ _ _ _; (repeat (rename (∀ (A : Fr) (H : Hp), AWP _ _ _ _ A H → _) => hK; clear hK)); (repeat (rename (Fr → Hp → Prop) => K; clear K))) | (show Exists _; (repeat (rename (∀ (A : Fr) (H : Hp), AWP _ _ _ _ A H → _) => hK; clear hK)); (repeat (rename (Fr → Hp → Prop) => K; clear K))) | skip)
  all_goals (refine end_retN rfl rfl ?_; unfold szI; split <;> omega)

theorem szI_bd (xs : List Int) (l : Int) (hl : -1 ≤ l ∧ l ≤ 1048576) : -1 ≤ szI xs l ∧ szI xs l ≤ 1048576 := by unfold szI; split <;> omega
theorem szGo_drop (xss : List (List Int)) (i : Nat) (l : Int) (h : i < xss.length) : szGo (xss.drop i) l = if szI (xss.getD i []) l < 0 then -1 else szGo (xss.drop (i + 1)) (szI (xss.getD i []) l) := by
  rw [List.drop_eq_getElem_cons h]
  simp [szGo, h]

theorem szInt64SS_ok (xss : List (List Int)) (l : Int) (hx : xss.length ≤ room) (hb : ∀ j, (xss.getD j []).length ≤ room) (hl : -1 ≤ l ∧ l ≤ 1048576) : AC Try.prog 153 [intss xss, .v (.int .i64 (l))] Hp.emp (fun _ => false) (retV (.v (.int .i64 (szII xss l)))) := by
  unfold room at hx
  refine ac_of_awp (N := ⟨_, fun _ => false, fun _ _ => rfl⟩) Try.func153 rfl (by kernel_rfl) Try.ntmps153 (by simp) ?_
  simp only [argsFr, List.zipIdx_cons, List.zipIdx_nil, go_sem]
  repeat' (first | refine awp_seqK fun K hK => ?_ | (refine awp_regionK 33589299 rfl ?_; simp only [List.map_cons, List.map_nil]; simp (maxSteps := 1000000) (dsimp := false) (implicitDefEqProofs := false) (disch := omega) only [wrap64, go_sem]) | (refine awp_regionQK 33589299 (by kernel_rfl) (by kernel_rfl) (by kernel_rfl) ?_; simp only [List.map_cons, List.map_nil]; simp (maxSteps := 1000000) (dsimp := false) (implicitDefEqProofs := false) (disch := omega) only [wrap64, go_sem]) | refine awp_block ?_ | (refine awp_skip ?_; simp only [go_sem]) | (refine awp_exit ?_; simp only [go_sem]) | (refine awp_ret ?_; try simp only [go_sem]) | (refine awp_condP rfl ?_; try simp only [go_sem]) | (refine BrP.mk (fun h => ?_) (fun h => ?_) <;> try simp (dsimp := false) (disch := omega) only [wrap64]) | (refine Br.mk (fun h => ?_) (fun h => ?_) <;> try simp (dsimp := false) (disch := omega) only [wrap64]) | refine Ob.mk (by first | omega | (intro _ _; rfl) | trivial | (intros; trivial) | assumption | (intro i hi; have h0 : i = 0 := (by omega); subst h0; first | rfl | trivial) | (intro i hi; have h0 : i = 0 ∨ i = 1 := (by omega); rcases h0 with rfl | rfl <;> rfl) | (intro i hi; have h0 : i = 0 ∨ i = 1 ∨ i = 2 := (by omega); rcases h0 with rfl | rfl | rfl <;> rfl)) ?_ | apply_assumption -exfalso -symm)
  all_goals (first | (show endQ _ _ _ _ _ _ _; (repeat (rename (∀ (A : Fr) (H : Hp), AWP _ _ _ _ A H → _) => hK; clear hK)); (repeat (rename (Fr → Hp → Prop) => K; clear K))) | (show Exists _; (repeat (rename (∀ (A : Fr) (H : Hp), AWP _ _ _ _ A H → _) => hK; clear hK)); (repeat (rename (Fr → Hp → Prop) => K; clear K))) | skip)
  · refine end_retN rfl rfl ?_; unfold szII; rw [if_pos (by omega)]
  refine awp_loop (ι := Nat × Int) (fun p => [(5, .v (.int .i64 (p.1))), (1, .v (.int .i64 (p.2))), (0, .list false 1 (xss).length (cM ints [] (xss)))]) (fun p => Hp.emp) (fun p => p.1 ≤ xss.length ∧ (0 ≤ p.2 ∧ p.2 ≤ 1048576) ∧ szGo (xss.drop p.1) p.2 = szGo xss (l - xss.length)) (fun p => xss.length - p.1) (0, l - xss.length) ?_ (Sub.toL (by simp only [go_sem] <;> first | trivial | (simp only [Option.some.injEq, AV.v.injEq, AV.own.injEq, AV.list.injEq, Value.int.injEq, Value.bool.injEq, true_and, and_true]; first | omega | (simp; done)) | (simp; done) | (simp; omega)) (by (repeat' (first | exact Hp.le_emp _ | exact Hp.le_refl _ | refine Hp.le_upd ?_ ?_)); all_goals (first | rfl | (simp only [go_sem]; first | rfl | (refine cellsE ?_ ?_ <;> (simp)) | (simp))))) ?_
  · exact ⟨Nat.zero_le _, by omega, rfl⟩
  rintro ⟨i, m⟩ ⟨h1, h2, h3⟩
  dsimp only at h1 h2 h3
  dsimp only
  repeat' (first | refine awp_seqK fun K hK => ?_ | (refine awp_regionK 33589299 rfl ?_; simp only [List.map_cons, List.map_nil]; simp (maxSteps := 1000000) (dsimp := false) (implicitDefEqProofs := false) (disch := omega) only [wrap64, go_sem]) | (refine awp_regionQK 33589299 (by kernel_rfl) (by kernel_rfl) (by kernel_rfl) ?_; simp only [List.map_cons, List.map_nil]; simp (maxSteps := 1000000) (dsimp := false) (implicitDefEqProofs := false) (disch := omega) only [wrap64, go_sem]) | refine awp_block ?_ | (refine awp_skip ?_; simp only [go_sem]) | (refine awp_exit ?_; simp only [go_sem]) | (refine awp_ret ?_; try simp only [go_sem]) | (refine awp_condP rfl ?_; try simp only [go_sem]) | (refine BrP.mk (fun h => ?_) (fun h => ?_) <;> try simp (dsimp := false) (disch := omega) only [wrap64]) | (refine Br.mk (fun h => ?_) (fun h => ?_) <;> try simp (dsimp := false) (disch := omega) only [wrap64]) | refine Ob.mk (by first | omega | (intro _ _; rfl) | trivial | (intros; trivial) | assumption | (intro i hi; have h0 : i = 0 := (by omega); subst h0; first | rfl | trivial) | (intro i hi; have h0 : i = 0 ∨ i = 1 := (by omega); rcases h0 with rfl | rfl <;> rfl) | (intro i hi; have h0 : i = 0 ∨ i = 1 ∨ i = 2 := (by omega); rcases h0 with rfl | rfl | rfl <;> rfl)) ?_ | ((first | ((first | refine atF (f := 247) ?_ | refine atQ (f := 247) ?_); (first | (refine cV (hac := szInt64S_ok _ _ (hb _) (by omega)) (hK := ?_)) | (refine cQV (hac := szInt64S_ok _ _ (hb _) (by omega)) (hK := ?_))))); simp (maxSteps := 1000000) (dsimp := false) (implicitDefEqProofs := false) (disch := omega) only [wrap64, go_sem]) | apply_assumption -exfalso -symm)
  all_goals (first | (show endQ _ _ _ _ _ _ _; (repeat (rename (∀ (A : Fr) (H : Hp), AWP _ _ _ _ A H → _) => hK; clear hK)); (repeat (rename (Fr → Hp → Prop) => K; clear K))) | (show Exists _; (repeat (rename (∀ (A : Fr) (H : Hp), AWP _ _ _ _ A H → _) => hK; clear hK)); (repeat (rename (Fr → Hp → Prop) => K; clear K))) | skip)
  · have h4 := szGo_drop xss i m (by omega)
    rw [if_pos (by assumption)] at h4
    refine end_retN rfl rfl ?_; unfold szII; rw [if_neg (by omega), ← h3, h4]
  · have h4 := szGo_drop xss i m (by omega)
    rw [if_neg (by assumption)] at h4
    have h5 := szI_bd (xss.getD i []) m (by omega)
    refine ⟨(i + 1, szI (xss.getD i []) m), ?_, ?_, Sub.toL (by simp only [go_sem] <;> first | trivial | (simp only [Option.some.injEq, AV.v.injEq, AV.own.injEq, AV.list.injEq, Value.int.injEq, Value.bool.injEq, true_and, and_true]; first | omega | (simp; done)) | (simp; done) | (simp; omega)) (by (repeat' (first | exact Hp.le_emp _ | exact Hp.le_refl _ | refine Hp.le_upd ?_ ?_)); all_goals (first | rfl | (simp only [go_sem]; first | rfl | (refine cellsE ?_ ?_ <;> (simp)) | (simp))))⟩
    · exact ⟨by dsimp only; omega, by dsimp only; omega, by rw [← h3, h4]⟩
    · dsimp only; omega
  · have e : i = xss.length := by omega
    refine end_retN rfl rfl ?_; unfold szII; rw [if_neg (by omega), ← h3, e, List.drop_length]; rfl

theorem szPuzzle_ok (p : Pz) (l : Int) (hs : p.s.size ≤ room) (hx : p.m.length ≤ room) (hb : ∀ j, (p.m.getD j []).length ≤ room) (hl : 0 ≤ l ∧ l ≤ 1048576) : AC Try.prog 45 [pz p, .v (.int .i64 (l))] Hp.emp (fun _ => false) (retV (.v (.int .i64 (szP p l)))) := by
  unfold room at hs
  refine ac_of_awp (N := ⟨_, fun _ => false, fun _ _ => rfl⟩) Try.func45 rfl (by kernel_rfl) Try.ntmps45 (by simp) ?_
  simp only [argsFr, List.zipIdx_cons, List.zipIdx_nil, go_sem]
  repeat' (first | refine awp_seqK fun K hK => ?_ | (refine awp_regionK 133143 rfl ?_; simp only [List.map_cons, List.map_nil]; simp (maxSteps := 1000000) (dsimp := false) (implicitDefEqProofs := false) (disch := omega) only [wrap64, go_sem]) | (refine awp_regionQK 133143 (by kernel_rfl) (by kernel_rfl) (by kernel_rfl) ?_; simp only [List.map_cons, List.map_nil]; simp (maxSteps := 1000000) (dsimp := false) (implicitDefEqProofs := false) (disch := omega) only [wrap64, go_sem]) | refine awp_block ?_ | (refine awp_skip ?_; simp only [go_sem]) | (refine awp_exit ?_; simp only [go_sem]) | (refine awp_ret ?_; try simp only [go_sem]) | (refine awp_condP rfl ?_; try simp only [go_sem]) | (refine BrP.mk (fun h => ?_) (fun h => ?_) <;> try simp (dsimp := false) (disch := omega) only [wrap64]) | (refine Br.mk (fun h => ?_) (fun h => ?_) <;> try simp (dsimp := false) (disch := omega) only [wrap64]) | refine Ob.mk (by first | omega | (intro _ _; rfl) | trivial | (intros; trivial) | assumption | (intro i hi; have h0 : i = 0 := (by omega); subst h0; first | rfl | trivial) | (intro i hi; have h0 : i = 0 ∨ i = 1 := (by omega); rcases h0 with rfl | rfl <;> rfl) | (intro i hi; have h0 : i = 0 ∨ i = 1 ∨ i = 2 := (by omega); rcases h0 with rfl | rfl | rfl <;> rfl)) ?_ | ((first | ((first | refine atF (f := 153) ?_ | refine atQ (f := 153) ?_); (first | (refine cV (hac := szInt64SS_ok _ _ hx hb (by omega)) (hK := ?_)) | (refine cQV (hac := szInt64SS_ok _ _ hx hb (by omega)) (hK := ?_))))); simp (maxSteps := 1000000) (dsimp := false) (implicitDefEqProofs := false) (disch := omega) only [wrap64, go_sem]) | apply_assumption -exfalso -symm)
  all_goals (first | (show endQ _ _ _ _ _ _ _; (repeat (rename (∀ (A : Fr) (H : Hp), AWP _ _ _ _ A H → _) => hK; clear hK)); (repeat (rename (Fr → Hp → Prop) => K; clear K))) | (show Exists _; (repeat (rename (∀ (A : Fr) (H : Hp), AWP _ _ _ _ A H → _) => hK; clear hK)); (repeat (rename (Fr → Hp → Prop) => K; clear K))) | skip)
  all_goals (refine end_retN rfl rfl ?_; unfold szP; (repeat' split) <;> first | rfl | omega)

theorem toInt64S_frz (xs : List Int) (hx : xs.length ≤ 1048576) : AC Try.prog 48 [ints xs] Hp.emp (fun _ => false) (retV (ints xs)) := (toInt64S_ok xs hx 0).frzI

def fillII (xss : List (List Int)) (k : Nat) (i : Nat) : AV := if i < k then ints (xss.getD i []) else .v (.slice none 0 0)
theorem fillII_zero (xss : List (List Int)) : zF [.slice none 0 0] = fillII xss 0 := by funext i; simp [zF, fillII, Nat.mod_one]
theorem fillII_step (xss : List (List Int)) (k : Nat) : setF (fillII xss k) k (.list false 1 (xss.getD k []).length (cM iv 0 (xss.getD k []))) = fillII xss (k + 1) := by
  funext j
  simp only [setF, fillII]
  by_cases h : j = k
  · subst h; simp [ints]
  · by_cases h2 : j < k
    · simp [h, h2, Nat.lt_succ_of_lt h2]
    · simp [h, h2, show ¬ j < k + 1 by omega]
theorem scF_fillII (p : Nat → Bool) (xss : List (List Int)) (k : Nat) : scF p (fillII xss k) = fillII xss k := by
  funext j; simp only [scF, fillII]; split <;> rfl

theorem toInt64SS_frz (xss : List (List Int)) (hx : xss.length ≤ 1048576) (hb : ∀ j, (xss.getD j []).length ≤ 1048576) : AC Try.prog 158 [intss xss] Hp.emp (fun _ => false) (retV (intss xss)) := by
  refine ac_of_awp (N := ⟨_, fun _ => false, fun _ _ => rfl⟩) Try.func158 rfl (by kernel_rfl) Try.ntmps158 (by simp) ?_
  simp only [argsFr, List.zipIdx_cons, List.zipIdx_nil, go_sem]
  repeat' (first | refine awp_seqK fun K hK => ?_ | (refine awp_regionK 2077 rfl ?_; simp only [List.map_cons, List.map_nil]; simp (maxSteps := 1000000) (dsimp := false) (implicitDefEqProofs := false) (disch := omega) only [wrap64, go_sem]) | (refine awp_regionQK 2077 (by kernel_rfl) (by kernel_rfl) (by kernel_rfl) ?_; simp only [List.map_cons, List.map_nil]; simp (maxSteps := 1000000) (dsimp := false) (implicitDefEqProofs := false) (disch := omega) only [wrap64, go_sem]) | refine awp_block ?_ | (refine awp_skip ?_; simp only [go_sem]) | (refine awp_exit ?_; simp only [go_sem]) | (refine awp_ret ?_; try simp only [go_sem]) | (refine awp_condP rfl ?_; try simp only [go_sem]) | (refine BrP.mk (fun h => ?_) (fun h => ?_) <;> try simp (dsimp := false) (disch := omega) only [wrap64]) | (refine Br.mk (fun h => ?_) (fun h => ?_) <;> try simp (dsimp := false) (disch := omega) only [wrap64]) | refine Ob.mk (by first | omega | (intro _ _; rfl) | trivial | (intros; trivial) | assumption | (intro i hi; have h0 : i = 0 := (by omega); subst h0; first | rfl | trivial) | (intro i hi; have h0 : i = 0 ∨ i = 1 := (by omega); rcases h0 with rfl | rfl <;> rfl) | (intro i hi; have h0 : i = 0 ∨ i = 1 ∨ i = 2 := (by omega); rcases h0 with rfl | rfl | rfl <;> rfl)) ?_ | apply_assumption -exfalso -symm)
  all_goals (first | (show endQ _ _ _ _ _ _ _; (repeat (rename (∀ (A : Fr) (H : Hp), AWP _ _ _ _ A H → _) => hK; clear hK)); (repeat (rename (Fr → Hp → Prop) => K; clear K))) | (show Exists _; (repeat (rename (∀ (A : Fr) (H : Hp), AWP _ _ _ _ A H → _) => hK; clear hK)); (repeat (rename (Fr → Hp → Prop) => K; clear K))) | skip)
  refine awp_loop (ι := Nat) (fun k => [(4, .v (.int .i64 (k))), (3, .own 7 0 1 xss.length), (0, .list false 1 (xss).length (cM ints [] (xss)))]) (fun k => Hp.emp.upd 7 (.cells xss.length (fillII xss k))) (fun k => k ≤ xss.length) (fun k => xss.length - k) 0 ?_ (Sub.toL (by simp only [go_sem] <;> first | trivial | (simp only [Option.some.injEq, AV.v.injEq, AV.own.injEq, AV.list.injEq, Value.int.injEq, Value.bool.injEq, true_and, and_true]; first | omega | (simp [fillII_zero xss]; done)) | (simp [fillII_zero xss]; done) | (simp [fillII_zero xss]; omega)) (by (repeat' (first | exact Hp.le_emp _ | exact Hp.le_refl _ | refine Hp.le_upd ?_ ?_)); all_goals (first | rfl | (simp only [go_sem]; first | rfl | (refine cellsE ?_ ?_ <;> (simp [fillII_zero xss])) | (simp [fillII_zero xss]))))) ?_
  · exact Nat.zero_le _
  intro k hk
  repeat' (first | refine awp_seqK fun K hK => ?_ | (refine awp_regionK 2077 rfl ?_; simp only [List.map_cons, List.map_nil]; simp (maxSteps := 1000000) (dsimp := false) (implicitDefEqProofs := false) (disch := omega) only [wrap64, go_sem, fillII_step, scF_fillII]) | (refine awp_regionQK 2077 (by kernel_rfl) (by kernel_rfl) (by kernel_rfl) ?_; simp only [List.map_cons, List.map_nil]; simp (maxSteps := 1000000) (dsimp := false) (implicitDefEqProofs := false) (disch := omega) only [wrap64, go_sem, fillII_step, scF_fillII]) | refine awp_block ?_ | (refine awp_skip ?_; simp only [go_sem, fillII_step, scF_fillII]) | (refine awp_exit ?_; simp only [go_sem, fillII_step, scF_fillII]) | (refine awp_ret ?_; try simp only [go_sem, fillII_step, scF_fillII]) | (refine awp_condP rfl ?_; try simp only [go_sem, fillII_step, scF_fillII]) | (refine BrP.mk (fun h => ?_) (fun h => ?_) <;> try simp (dsimp := false) (disch := omega) only [wrap64]) | (refine Br.mk (fun h => ?_) (fun h => ?_) <;> try simp (dsimp := false) (disch := omega) only [wrap64]) | refine Ob.mk (by first | omega | (intro _ _; rfl) | trivial | (intros; trivial) | assumption | (intro i hi; have h0 : i = 0 := (by omega); subst h0; first | rfl | trivial) | (intro i hi; have h0 : i = 0 ∨ i = 1 := (by omega); rcases h0 with rfl | rfl <;> rfl) | (intro i hi; have h0 : i = 0 ∨ i = 1 ∨ i = 2 := (by omega); rcases h0 with rfl | rfl | rfl <;> rfl)) ?_ | ((first | ((first | refine atF (f := 48) ?_ | refine atQ (f := 48) ?_); (first | (refine cR (hac := toInt64S_frz _ (hb _)) (hK := ?_)) | (refine cQR (hac := toInt64S_frz _ (hb _)) (hK := ?_))))); simp (maxSteps := 1000000) (dsimp := false) (implicitDefEqProofs := false) (disch := omega) only [wrap64, go_sem, fillII_step, scF_fillII]) | apply_assumption -exfalso -symm)
  all_goals (first | (show endQ _ _ _ _ _ _ _; (repeat (rename (∀ (A : Fr) (H : Hp), AWP _ _ _ _ A H → _) => hK; clear hK)); (repeat (rename (Fr → Hp → Prop) => K; clear K))) | (show Exists _; (repeat (rename (∀ (A : Fr) (H : Hp), AWP _ _ _ _ A H → _) => hK; clear hK)); (repeat (rename (Fr → Hp → Prop) => K; clear K))) | skip)
  · refine ⟨k + 1, ?_, ?_, Sub.toL (by simp only [go_sem] <;> first | trivial | (simp only [Option.some.injEq, AV.v.injEq, AV.own.injEq, AV.list.injEq, Value.int.injEq, Value.bool.injEq, true_and, and_true]; first | omega | (simp; done)) | (simp; done) | (simp; omega)) (by (repeat' (first | exact Hp.le_emp _ | exact Hp.le_refl _ | refine Hp.le_upd ?_ ?_)); all_goals (first | rfl | (simp only [go_sem]; first | rfl | (refine cellsE ?_ ?_ <;> (simp)) | (simp))))⟩
    all_goals omega
  · have e : k = xss.length := by omega
    subst e
    refine end_retF rfl rfl ?_
    refine .own rfl trivial (by omega) (fun _ _ => by first | exact trivial | exact fun _ _ => trivial) (fun i hi => ?_)
    simp only [fillII, Nat.zero_add]
    rw [if_pos (by omega)]
    exact .refl _

theorem toPuzzle_frz (p : Pz) (hx : p.m.length ≤ 1048576) (hb : ∀ j, (p.m.getD j []).length ≤ 1048576) : AC Try.prog 47 [pz p] Hp.emp (fun _ => false) (retV (pz p)) := by
  refine ac_of_awp (N := ⟨_, fun _ => false, fun _ _ => rfl⟩) Try.func47 rfl (by kernel_rfl) Try.ntmps47 (by simp) ?_
  simp only [argsFr, List.zipIdx_cons, List.zipIdx_nil, go_sem]
  repeat' (first | refine awp_seqK fun K hK => ?_ | (refine awp_regionK 15 rfl ?_; simp only [List.map_cons, List.map_nil]; simp (maxSteps := 1000000) (dsimp := false) (implicitDefEqProofs := false) (disch := omega) only [wrap64, go_sem]) | (refine awp_regionQK 15 (by kernel_rfl) (by kernel_rfl) (by kernel_rfl) ?_; simp only [List.map_cons, List.map_nil]; simp (maxSteps := 1000000) (dsimp := false) (implicitDefEqProofs := false) (disch := omega) only [wrap64, go_sem]) | refine awp_block ?_ | (refine awp_skip ?_; simp only [go_sem]) | (refine awp_exit ?_; simp only [go_sem]) | (refine awp_ret ?_; try simp only [go_sem]) | (refine awp_condP rfl ?_; try simp only [go_sem]) | (refine BrP.mk (fun h => ?_) (fun h => ?_) <;> try simp (dsimp := false) (disch := omega) only [wrap64]) | (refine Br.mk (fun h => ?_) (fun h => ?_) <;> try simp (dsimp := false) (disch := omega) only [wrap64]) | refine Ob.mk (by first | omega | (intro _ _; rfl) | trivial | (intros; trivial) | assumption | (intro i hi; have h0 : i = 0 := (by omega); subst h0; first | rfl | trivial) | (intro i hi; have h0 : i = 0 ∨ i = 1 := (by omega); rcases h0 with rfl | rfl <;> rfl) | (intro i hi; have h0 : i = 0 ∨ i = 1 ∨ i = 2 := (by omega); rcases h0 with rfl | rfl | rfl <;> rfl)) ?_ | ((first | ((first | refine atF (f := 158) ?_ | refine atQ (f := 158) ?_); (first | (refine cR (hac := toInt64SS_frz _ hx hb) (hK := ?_)) | (refine cQR (hac := toInt64SS_frz _ hx hb) (hK := ?_))))); simp (maxSteps := 1000000) (dsimp := false) (implicitDefEqProofs := false) (disch := omega) only [wrap64, go_sem]) | apply_assumption -exfalso -symm)
  all_goals (first | (show endQ _ _ _ _ _ _ _; (repeat (rename (∀ (A : Fr) (H : Hp), AWP _ _ _ _ A H → _) => hK; clear hK)); (repeat (rename (Fr → Hp → Prop) => K; clear K))) | (show Exists _; (repeat (rename (∀ (A : Fr) (H : Hp), AWP _ _ _ _ A H → _) => hK; clear hK)); (repeat (rename (Fr → Hp → Prop) => K; clear K))) | skip)
  refine end_retC rfl rfl (by simp only [go_sem]; rfl) rfl (by decide) (fun i hi => ?_) (fun i hi => ?_)
  · have h0 : i = 0 ∨ i = 1 ∨ i = 2 := by omega
    rcases h0 with rfl | rfl | rfl <;> first | exact trivial | exact fun _ _ => trivial
  · have h0 : i = 0 ∨ i = 1 ∨ i = 2 := by omega
    rcases h0 with rfl | rfl | rfl <;> exact .refl _

theorem eq_of_getDD {xs ys : List (List Int)} (hl : xs.length = ys.length) (h : ∀ j, j < xs.length → xs.getD j [] = ys.getD j []) : xs = ys := by
  refine List.ext_getElem hl fun i h1 h2 => ?_
  have := h i h1
  simpa [h1, h2] using this

theorem eqInt64SS_ok (xs ys : List (List Int)) (hx : xs.length ≤ 1048576) (hb : ∀ j, (xs.getD j []).length ≤ 1048576) : AC Try.prog 162 [intss xs, intss ys] Hp.emp (fun _ => false) (retV (.v (.bool (decide (xs = ys))))) := by
  refine ac_of_awp (N := ⟨_, fun _ => false, fun _ _ => rfl⟩) Try.func162 rfl (by kernel_rfl) Try.ntmps162 (by simp) ?_
  simp only [argsFr, List.zipIdx_cons, List.zipIdx_nil, go_sem]
  repeat' (first | refine awp_seqK fun K hK => ?_ | (refine awp_regionK 67126323 rfl ?_; simp only [List.map_cons, List.map_nil]; simp (maxSteps := 1000000) (dsimp := false) (implicitDefEqProofs := false) (disch := omega) only [wrap64, go_sem]) | (refine awp_regionQK 67126323 (by kernel_rfl) (by kernel_rfl) (by kernel_rfl) ?_; simp only [List.map_cons, List.map_nil]; simp (maxSteps := 1000000) (dsimp := false) (implicitDefEqProofs := false) (disch := omega) only [wrap64, go_sem]) | refine awp_block ?_ | (refine awp_skip ?_; simp only [go_sem]) | (refine awp_exit ?_; simp only [go_sem]) | (refine awp_ret ?_; try simp only [go_sem]) | (refine awp_condP rfl ?_; try simp only [go_sem]) | (refine BrP.mk (fun h => ?_) (fun h => ?_) <;> try simp (dsimp := false) (disch := omega) only [wrap64]) | (refine Br.mk (fun h => ?_) (fun h => ?_) <;> try simp (dsimp := false) (disch := omega) only [wrap64]) | refine Ob.mk (by first | omega | (intro _ _; rfl) | trivial | (intros; trivial) | assumption | (intro i hi; have h0 : i = 0 := (by omega); subst h0; first | rfl | trivial) | (intro i hi; have h0 : i = 0 ∨ i = 1 := (by omega); rcases h0 with rfl | rfl <;> rfl) | (intro i hi; have h0 : i = 0 ∨ i = 1 ∨ i = 2 := (by omega); rcases h0 with rfl | rfl | rfl <;> rfl)) ?_ | apply_assumption -exfalso -symm)
  all_goals (first | (show endQ _ _ _ _ _ _ _; (repeat (rename (∀ (A : Fr) (H : Hp), AWP _ _ _ _ A H → _) => hK; clear hK)); (repeat (rename (Fr → Hp → Prop) => K; clear K))) | (show Exists _; (repeat (rename (∀ (A : Fr) (H : Hp), AWP _ _ _ _ A H → _) => hK; clear hK)); (repeat (rename (Fr → Hp → Prop) => K; clear K))) | skip)
  · have hl : xs.length = ys.length := by omega
    refine awp_loop (ι := Nat) (fun k => [(5, .v (.int .i64 (k))), (0, .list false 1 (xs).length (cM ints [] (xs))), (1, .list false 1 (ys).length (cM ints [] (ys)))]) (fun k => Hp.emp) (fun k => k ≤ xs.length ∧ ∀ j, j < k → xs.getD j [] = ys.getD j []) (fun k => xs.length - k) 0 ?_ (Sub.toL (by simp only [go_sem] <;> first | trivial | (simp only [Option.some.injEq, AV.v.injEq, AV.own.injEq, AV.list.injEq, Value.int.injEq, Value.bool.injEq, true_and, and_true]; first | omega | (simp; done)) | (simp; done) | (simp; omega)) (by (repeat' (first | exact Hp.le_emp _ | exact Hp.le_refl _ | refine Hp.le_upd ?_ ?_)); all_goals (first | rfl | (simp only [go_sem]; first | rfl | (refine cellsE ?_ ?_ <;> (simp)) | (simp))))) ?_
    · exact ⟨Nat.zero_le _, fun j h => absurd h (Nat.not_lt_zero _)⟩
    intro k hk
    repeat' (first | refine awp_seqK fun K hK => ?_ | (refine awp_regionK 67126323 rfl ?_; simp only [List.map_cons, List.map_nil]; simp (maxSteps := 1000000) (dsimp := false) (implicitDefEqProofs := false) (disch := omega) only [wrap64, go_sem]) | (refine awp_regionQK 67126323 (by kernel_rfl) (by kernel_rfl) (by kernel_rfl) ?_; simp only [List.map_cons, List.map_nil]; simp (maxSteps := 1000000) (dsimp := false) (implicitDefEqProofs := false) (disch := omega) only [wrap64, go_sem]) | refine awp_block ?_ | (refine awp_skip ?_; simp only [go_sem]) | (refine awp_exit ?_; simp only [go_sem]) | (refine awp_ret ?_; try simp only [go_sem]) | (refine awp_condP rfl ?_; try simp only [go_sem]) | (refine BrP.mk (fun h => ?_) (fun h => ?_) <;> try simp (dsimp := false) (disch := omega) only [wrap64]) | (refine Br.mk (fun h => ?_) (fun h => ?_) <;> try simp (dsimp := false) (disch := omega) only [wrap64]) | refine Ob.mk (by first | omega | (intro _ _; rfl) | trivial | (intros; trivial) | assumption | (intro i hi; have h0 : i = 0 := (by omega); subst h0; first | rfl | trivial) | (intro i hi; have h0 : i = 0 ∨ i = 1 := (by omega); rcases h0 with rfl | rfl <;> rfl) | (intro i hi; have h0 : i = 0 ∨ i = 1 ∨ i = 2 := (by omega); rcases h0 with rfl | rfl | rfl <;> rfl)) ?_ | ((first | ((first | refine atF (f := 50) ?_ | refine atQ (f := 50) ?_); (first | (refine cV (hac := eqInt64S_ok _ _ (hb _)) (hK := ?_)) | (refine cQV (hac := eqInt64S_ok _ _ (hb _)) (hK := ?_))))); simp (maxSteps := 1000000) (dsimp := false) (implicitDefEqProofs := false) (disch := omega) only [wrap64, go_sem]) | apply_assumption -exfalso -symm)
    all_goals (first | (show endQ _ _ _ _ _ _ _; (repeat (rename (∀ (A : Fr) (H : Hp), AWP _ _ _ _ A H → _) => hK; clear hK)); (repeat (rename (Fr → Hp → Prop) => K; clear K))) | (show Exists _; (repeat (rename (∀ (A : Fr) (H : Hp), AWP _ _ _ _ A H → _) => hK; clear hK)); (repeat (rename (Fr → Hp → Prop) => K; clear K))) | skip)
    · refine ⟨k + 1, ?_, ?_, Sub.toL (by simp only [go_sem] <;> first | trivial | (simp only [Option.some.injEq, AV.v.injEq, AV.own.injEq, AV.list.injEq, Value.int.injEq, Value.bool.injEq, true_and, and_true]; first | omega | (simp; done)) | (simp; done) | (simp; omega)) (by (repeat' (first | exact Hp.le_emp _ | exact Hp.le_refl _ | refine Hp.le_upd ?_ ?_)); all_goals (first | rfl | (simp only [go_sem]; first | rfl | (refine cellsE ?_ ?_ <;> (simp)) | (simp))))⟩
      · refine ⟨by omega, fun j hj => ?_⟩
        by_cases h' : j = k
        · subst h'; assumption
        · exact hk.2 j (by omega)
      · omega
    · refine end_retB rfl rfl ?_
      simp only [Bool.false_eq_true, false_iff]
      rintro rfl
      exact absurd rfl ‹¬_›
    · refine end_retB rfl rfl ?_
      simp only [true_iff]
      exact eq_of_getDD hl fun j hj => hk.2 j (by omega)
  · exact end_retB rfl rfl (by simp; rintro rfl; simp at h)

theorem eqPuzzle_ok (p q : Pz) (hx : p.m.length ≤ 1048576) (hb : ∀ j, (p.m.getD j []).length ≤ 1048576) : AC Try.prog 51 [pz p, pz q] Hp.emp (fun _ => false) (retV (.v (.bool (decide (p.n = q.n ∧ p.s.toList = q.s.toList ∧ p.m = q.m))))) := by
  refine ac_of_awp (N := ⟨_, fun _ => false, fun _ _ => rfl⟩) Try.func51 rfl (by kernel_rfl) Try.ntmps51 (by simp) ?_
  simp only [argsFr, List.zipIdx_cons, List.zipIdx_nil, go_sem]
  repeat' (first | refine awp_seqK fun K hK => ?_ | (refine awp_regionK 1065503 rfl ?_; simp only [List.map_cons, List.map_nil]; simp (maxSteps := 1000000) (dsimp := false) (implicitDefEqProofs := false) (disch := omega) only [wrap64, go_sem]) | (refine awp_regionQK 1065503 (by kernel_rfl) (by kernel_rfl) (by kernel_rfl) ?_; simp only [List.map_cons, List.map_nil]; simp (maxSteps := 1000000) (dsimp := false) (implicitDefEqProofs := false) (disch := omega) only [wrap64, go_sem]) | refine awp_block ?_ | (refine awp_skip ?_; simp only [go_sem]) | (refine awp_exit ?_; simp only [go_sem]) | (refine awp_ret ?_; try simp only [go_sem]) | (refine awp_condP rfl ?_; try simp only [go_sem]) | (refine BrP.mk (fun h => ?_) (fun h => ?_) <;> try simp (dsimp := false) (disch := omega) only [wrap64]) | (refine Br.mk (fun h => ?_) (fun h => ?_) <;> try simp (dsimp := false) (disch := omega) only [wrap64]) | refine Ob.mk (by first | omega | (intro _ _; rfl) | trivial | (intros; trivial) | assumption | (intro i hi; have h0 : i = 0 := (by omega); subst h0; first | rfl | trivial) | (intro i hi; have h0 : i = 0 ∨ i = 1 := (by omega); rcases h0 with rfl | rfl <;> rfl) | (intro i hi; have h0 : i = 0 ∨ i = 1 ∨ i = 2 := (by omega); rcases h0 with rfl | rfl | rfl <;> rfl)) ?_ | ((first | ((first | refine atF (f := 162) ?_ | refine atQ (f := 162) ?_); (first | (refine cV (hac := eqInt64SS_ok _ _ hx hb) (hK := ?_)) | (refine cQV (hac := eqInt64SS_ok _ _ hx hb) (hK := ?_))))); simp (maxSteps := 1000000) (dsimp := false) (implicitDefEqProofs := false) (disch := omega) only [wrap64, go_sem]) | apply_assumption -exfalso -symm)
  all_goals (first | (show endQ _ _ _ _ _ _ _; (repeat (rename (∀ (A : Fr) (H : Hp), AWP _ _ _ _ A H → _) => hK; clear hK)); (repeat (rename (Fr → Hp → Prop) => K; clear K))) | (show Exists _; (repeat (rename (∀ (A : Fr) (H : Hp), AWP _ _ _ _ A H → _) => hK; clear hK)); (repeat (rename (Fr → Hp → Prop) => K; clear K))) | skip)
  all_goals (refine end_retB rfl rfl ?_; simp only [*, Bool.false_eq_true, true_iff, false_iff, and_self, not_and, not_true, imp_false, false_and, and_false, not_false_eq_true, implies_true])
end Go.Proofs.Ytcfnbahpdlmcpaa
end
section
namespace Go.Proofs.Ytcfnbahpdlmcpaa
open Go.Av
set_option linter.unusedSimpArgs false
set_option linter.unusedVariables false
attribute [local irreducible] AWP CallG Ob Br BrP Go.Av.Sub endQ AOps OpV AC thenA blkA opsVC opVC withA withArgs opsQ opQ CallQ withA2 withArgs2

theorem mem_getD {xs : List Int} {x : Int} : x ∈ xs ↔ ∃ j, j < xs.length ∧ xs.getD j 0 = x := by
  constructor
  · intro h
    obtain ⟨i, hi, e⟩ := List.getElem_of_mem h
    exact ⟨i, hi, by simp [hi, e]⟩
  · rintro ⟨j, hj, e⟩
    have : xs.getD j 0 = xs[j] := by simp [hj]
    rw [← e, this]; exact List.getElem_mem hj

theorem containsInt_ok (xs : List Int) (x : Int) (hx : xs.length ≤ 1048576) : AC Try.prog 230 [ints xs, .v (.int .i64 (x))] Hp.emp (fun _ => false) (retV (.v (.bool (decide (x ∈ xs))))) := by
  refine ac_of_awp (N := ⟨_, fun _ => false, fun _ _ => rfl⟩) Try.func230 rfl (by kernel_rfl) Try.ntmps230 (by simp) ?_
  simp only [argsFr, List.zipIdx_cons, List.zipIdx_nil, go_sem]
  repeat' (first | refine awp_seqK fun K hK => ?_ | (refine awp_regionK 131635 rfl ?_; simp only [List.map_cons, List.map_nil]; simp (maxSteps := 1000000) (dsimp := false) (implicitDefEqProofs := false) (disch := omega) only [wrap64, go_sem]) | (refine awp_regionQK 131635 (by kernel_rfl) (by kernel_rfl) (by kernel_rfl) ?_; simp only [List.map_cons, List.map_nil]; simp (maxSteps := 1000000) (dsimp := false) (implicitDefEqProofs := false) (disch := omega) only [wrap64, go_sem]) | refine awp_block ?_ | (refine awp_skip ?_; simp only [go_sem]) | (refine awp_exit ?_; simp only [go_sem]) | (refine awp_ret ?_; try simp only [go_sem]) | (refine awp_condP rfl ?_; try simp only [go_sem]) | (refine BrP.mk (fun h => ?_) (fun h => ?_) <;> try simp (dsimp := false) (disch := omega) only [wrap64]) | (refine Br.mk (fun h => ?_) (fun h => ?_) <;> try simp (dsimp := false) (disch := omega) only [wrap64]) | refine Ob.mk (by first | omega | (intro _ _; rfl) | trivial | (intros; trivial) | assumption | (intro i hi; have h0 : i = 0 := (by omega); subst h0; first | rfl | trivial) | (intro i hi; have h0 : i = 0 ∨ i = 1 := (by omega); rcases h0 with rfl | rfl <;> rfl) | (intro i hi; have h0 : i = 0 ∨ i = 1 ∨ i = 2 := (by omega); rcases h0 with rfl | rfl | rfl <;> rfl)) ?_ | apply_assumption -exfalso -symm)
  all_goals (first | (show endQ _ _ _ _ _ _ _; (repeat (rename (∀ (A : Fr) (H : Hp), AWP _ _ _ _ A H → _) => hK; clear hK)); (repeat (rename (Fr → Hp → Prop) => K; clear K))) | (show Exists _; (repeat (rename (∀ (A : Fr) (H : Hp), AWP _ _ _ _ A H → _) => hK; clear hK)); (repeat (rename (Fr → Hp → Prop) => K; clear K))) | skip)
  refine awp_loop (ι := Nat) (fun k => [(5, .v (.int .i64 (k))), (0, .list false 1 (xs).length (cM iv 0 (xs))), (1, .v (.int .i64 (x)))]) (fun k => Hp.emp) (fun k => k ≤ xs.length ∧ ∀ j, j < k → xs.getD j 0 ≠ x) (fun k => xs.length - k) 0 ?_ (Sub.toL (by simp only [go_sem] <;> first | trivial | (simp only [Option.some.injEq, AV.v.injEq, AV.own.injEq, AV.list.injEq, Value.int.injEq, Value.bool.injEq, true_and, and_true]; first | omega | (simp; done)) | (simp; done) | (simp; omega)) (by (repeat' (first | exact Hp.le_emp _ | exact Hp.le_refl _ | refine Hp.le_upd ?_ ?_)); all_goals (first | rfl | (simp only [go_sem]; first | rfl | (refine cellsE ?_ ?_ <;> (simp)) | (simp))))) ?_
  · exact ⟨Nat.zero_le _, fun j h => absurd h (Nat.not_lt_zero _)⟩
  intro k hk
  repeat' (first | refine awp_seqK fun K hK => ?_ | (refine awp_regionK 131635 rfl ?_; simp only [List.map_cons, List.map_nil]; simp (maxSteps := 1000000) (dsimp := false) (implicitDefEqProofs := false) (disch := omega) only [wrap64, go_sem]) | (refine awp_regionQK 131635 (by kernel_rfl) (by kernel_rfl) (by kernel_rfl) ?_; simp only [List.map_cons, List.map_nil]; simp (maxSteps := 1000000) (dsimp := false) (implicitDefEqProofs := false) (disch := omega) only [wrap64, go_sem]) | refine awp_block ?_ | (refine awp_skip ?_; simp only [go_sem]) | (refine awp_exit ?_; simp only [go_sem]) | (refine awp_ret ?_; try simp only [go_sem]) | (refine awp_condP rfl ?_; try simp only [go_sem]) | (refine BrP.mk (fun h => ?_) (fun h => ?_) <;> try simp (dsimp := false) (disch := omega) only [wrap64]) | (refine Br.mk (fun h => ?_) (fun h => ?_) <;> try simp (dsimp := false) (disch := omega) only [wrap64]) | refine Ob.mk (by first | omega | (intro _ _; rfl) | trivial | (intros; trivial) | assumption | (intro i hi; have h0 : i = 0 := (by omega); subst h0; first | rfl | trivial) | (intro i hi; have h0 : i = 0 ∨ i = 1 := (by omega); rcases h0 with rfl | rfl <;> rfl) | (intro i hi; have h0 : i = 0 ∨ i = 1 ∨ i = 2 := (by omega); rcases h0 with rfl | rfl | rfl <;> rfl)) ?_ | apply_assumption -exfalso -symm)
  all_goals (first | (show endQ _ _ _ _ _ _ _; (repeat (rename (∀ (A : Fr) (H : Hp), AWP _ _ _ _ A H → _) => hK; clear hK)); (repeat (rename (Fr → Hp → Prop) => K; clear K))) | (show Exists _; (repeat (rename (∀ (A : Fr) (H : Hp), AWP _ _ _ _ A H → _) => hK; clear hK)); (repeat (rename (Fr → Hp → Prop) => K; clear K))) | skip)
  · refine end_retB rfl rfl ?_
    simp only [true_iff]
    exact mem_getD.2 ⟨k, by omega, by assumption⟩
  · refine ⟨k + 1, ?_, ?_, Sub.toL (by simp only [go_sem] <;> first | trivial | (simp only [Option.some.injEq, AV.v.injEq, AV.own.injEq, AV.list.injEq, Value.int.injEq, Value.bool.injEq, true_and, and_true]; first | omega | (simp; done)) | (simp; done) | (simp; omega)) (by (repeat' (first | exact Hp.le_emp _ | exact Hp.le_refl _ | refine Hp.le_upd ?_ ?_)); all_goals (first | rfl | (simp only [go_sem]; first | rfl | (refine cellsE ?_ ?_ <;> (simp)) | (simp))))⟩
    · refine ⟨by omega, fun j hj => ?_⟩
      by_cases h' : j = k
      · subst h'; assumption
      · exact hk.2 j (by omega)
    · omega
  · refine end_retB rfl rfl ?_
    simp only [Bool.false_eq_true, false_iff]
    intro hm
    obtain ⟨j, hj, e⟩ := mem_getD.1 hm
    exact hk.2 j (by omega) e

def isPerm (p : List Int) : Prop := (1 ≤ p.length ∧ p.length ≤ 20) ∧ ∀ j, j < p.length → (0 ≤ p.getD j 0 ∧ p.getD j 0 ≤ (p.length : Int) - 1) ∧ p.getD j 0 ∉ p.take j
instance (p : List Int) : Decidable (isPerm p) := by unfold isPerm; infer_instance

theorem specIsPermutation_ok (p : List Int) : AC Try.prog 119 [ints p] Hp.emp (fun _ => false) (retV (.v (.bool (decide (isPerm p))))) := by
  refine ac_of_awp (N := ⟨_, fun _ => false, fun _ _ => rfl⟩) Try.func119 rfl (by kernel_rfl) Try.ntmps119 (by simp) ?_
  simp only [argsFr, List.zipIdx_cons, List.zipIdx_nil, go_sem]
  repeat' (first | refine awp_seqK fun K hK => ?_ | (refine awp_regionK 8589943325 rfl ?_; simp only [List.map_cons, List.map_nil]; simp (maxSteps := 1000000) (dsimp := false) (implicitDefEqProofs := false) (disch := omega) only [wrap64, go_sem]) | (refine awp_regionQK 8589943325 (by kernel_rfl) (by kernel_rfl) (by kernel_rfl) ?_; simp only [List.map_cons, List.map_nil]; simp (maxSteps := 1000000) (dsimp := false) (implicitDefEqProofs := false) (disch := omega) only [wrap64, go_sem]) | refine awp_block ?_ | (refine awp_skip ?_; simp only [go_sem]) | (refine awp_exit ?_; simp only [go_sem]) | (refine awp_ret ?_; try simp only [go_sem]) | (refine awp_condP rfl ?_; try simp only [go_sem]) | (refine BrP.mk (fun h => ?_) (fun h => ?_) <;> try simp (dsimp := false) (disch := omega) only [wrap64]) | (refine Br.mk (fun h => ?_) (fun h => ?_) <;> try simp (dsimp := false) (disch := omega) only [wrap64]) | refine Ob.mk (by first | omega | (intro _ _; rfl) | trivial | (intros; trivial) | assumption | (intro i hi; have h0 : i = 0 := (by omega); subst h0; first | rfl | trivial) | (intro i hi; have h0 : i = 0 ∨ i = 1 := (by omega); rcases h0 with rfl | rfl <;> rfl) | (intro i hi; have h0 : i = 0 ∨ i = 1 ∨ i = 2 := (by omega); rcases h0 with rfl | rfl | rfl <;> rfl)) ?_ | ((first | ((first | refine atF (f := 132) ?_ | refine atQ (f := 132) ?_); (first | (refine cV (hac := inRange_ok _ _ _) (hK := ?_)) | (refine cQV (hac := inRange_ok _ _ _) (hK := ?_))))); simp (maxSteps := 1000000) (dsimp := false) (implicitDefEqProofs := false) (disch := omega) only [wrap64, go_sem]) | apply_assumption -exfalso -symm)
  all_goals (first | (show endQ _ _ _ _ _ _ _; (repeat (rename (∀ (A : Fr) (H : Hp), AWP _ _ _ _ A H → _) => hK; clear hK)); (repeat (rename (Fr → Hp → Prop) => K; clear K))) | (show Exists _; (repeat (rename (∀ (A : Fr) (H : Hp), AWP _ _ _ _ A H → _) => hK; clear hK)); (repeat (rename (Fr → Hp → Prop) => K; clear K))) | skip)
  · refine awp_loop (ι := Nat) (fun k => [(4, .v (.int .i64 (k))), (0, .list false 1 (p).length (cM iv 0 (p))), (3, .v (.int .i64 (p.length)))]) (fun k => Hp.emp) (fun k => k ≤ p.length ∧ ∀ j, j < k → (0 ≤ p.getD j 0 ∧ p.getD j 0 ≤ (p.length : Int) - 1) ∧ p.getD j 0 ∉ p.take j) (fun k => p.length - k) 0 ?_ (Sub.toL (by simp only [go_sem] <;> first | trivial | (simp only [Option.some.injEq, AV.v.injEq, AV.own.injEq, AV.list.injEq, Value.int.injEq, Value.bool.injEq, true_and, and_true]; first | omega | (simp; done)) | (simp; done) | (simp; omega)) (by (repeat' (first | exact Hp.le_emp _ | exact Hp.le_refl _ | refine Hp.le_upd ?_ ?_)); all_goals (first | rfl | (simp only [go_sem]; first | rfl | (refine cellsE ?_ ?_ <;> (simp)) | (simp))))) ?_
    · exact ⟨Nat.zero_le _, fun j h => absurd h (Nat.not_lt_zero _)⟩
    intro k hk
    repeat' (first | refine awp_seqK fun K hK => ?_ | (refine awp_regionK 8589943325 rfl ?_; simp only [List.map_cons, List.map_nil]; simp (maxSteps := 1000000) (dsimp := false) (implicitDefEqProofs := false) (disch := omega) only [wrap64, go_sem]) | (refine awp_regionQK 8589943325 (by kernel_rfl) (by kernel_rfl) (by kernel_rfl) ?_; simp only [List.map_cons, List.map_nil]; simp (maxSteps := 1000000) (dsimp := false) (implicitDefEqProofs := false) (disch := omega) only [wrap64, go_sem]) | refine awp_block ?_ | (refine awp_skip ?_; simp only [go_sem]) | (refine awp_exit ?_; simp only [go_sem]) | (refine awp_ret ?_; try simp only [go_sem]) | (refine awp_condP rfl ?_; try simp only [go_sem]) | (refine BrP.mk (fun h => ?_) (fun h => ?_) <;> try simp (dsimp := false) (disch := omega) only [wrap64]) | (refine Br.mk (fun h => ?_) (fun h => ?_) <;> try simp (dsimp := false) (disch := omega) only [wrap64]) | refine Ob.mk (by first | omega | (intro _ _; rfl) | trivial | (intros; trivial) | assumption | (intro i hi; have h0 : i = 0 := (by omega); subst h0; first | rfl | trivial) | (intro i hi; have h0 : i = 0 ∨ i = 1 := (by omega); rcases h0 with rfl | rfl <;> rfl) | (intro i hi; have h0 : i = 0 ∨ i = 1 ∨ i = 2 := (by omega); rcases h0 with rfl | rfl | rfl <;> rfl)) ?_ | ((first | ((first | refine atF (f := 132) ?_ | refine atQ (f := 132) ?_); (first | (refine cV (hac := inRange_ok _ _ _) (hK := ?_)) | (refine cQV (hac := inRange_ok _ _ _) (hK := ?_)))) | ((first | refine atF (f := 230) ?_ | refine atQ (f := 230) ?_); (first | (refine cV (hac := containsInt_ok (p.take k) _ (by simp; omega)) (hK := ?_)) | (refine cQV (hac := containsInt_ok (p.take k) _ (by simp; omega)) (hK := ?_))))); simp (maxSteps := 1000000) (dsimp := false) (implicitDefEqProofs := false) (disch := omega) only [wrap64, go_sem]) | apply_assumption -exfalso -symm)
    all_goals (first | (show endQ _ _ _ _ _ _ _; (repeat (rename (∀ (A : Fr) (H : Hp), AWP _ _ _ _ A H → _) => hK; clear hK)); (repeat (rename (Fr → Hp → Prop) => K; clear K))) | (show Exists _; (repeat (rename (∀ (A : Fr) (H : Hp), AWP _ _ _ _ A H → _) => hK; clear hK)); (repeat (rename (Fr → Hp → Prop) => K; clear K))) | skip)
    · refine end_retB rfl rfl ?_
      simp only [Bool.false_eq_true, false_iff]
      intro h2; exact (h2.2 k (by omega)).2 ‹_›
    · refine ⟨k + 1, ?_, ?_, Sub.toL (by simp only [go_sem] <;> first | trivial | (simp only [Option.some.injEq, AV.v.injEq, AV.own.injEq, AV.list.injEq, Value.int.injEq, Value.bool.injEq, true_and, and_true]; first | omega | (simp; done)) | (simp; done) | (simp; omega)) (by (repeat' (first | exact Hp.le_emp _ | exact Hp.le_refl _ | refine Hp.le_upd ?_ ?_)); all_goals (first | rfl | (simp only [go_sem]; first | rfl | (refine cellsE ?_ ?_ <;> (simp)) | (simp))))⟩
      · refine ⟨by omega, fun j hj => ?_⟩
        by_cases h' : j = k
        · subst h'; exact ⟨by assumption, by assumption⟩
        · exact hk.2 j (by omega)
      · omega
    · refine end_retB rfl rfl ?_
      simp only [Bool.false_eq_true, false_iff]
      intro h2; exact ‹¬ (_ ∧ _)› (h2.2 k (by omega)).1
    · refine end_retB rfl rfl ?_
      simp only [true_iff]
      exact ⟨by omega, fun j hj => hk.2 j (by omega)⟩
  · refine end_retB rfl rfl ?_
    simp only [Bool.false_eq_true, false_iff]
    intro h2; have := h2.1; omega

def isGens (n : Int) (g : List (List Int)) : Prop := (1 ≤ n ∧ n ≤ 20) ∧ g.length ≤ 8 ∧ ∀ j, j < g.length → ((g.getD j []).length : Int) = n ∧ isPerm (g.getD j [])
instance (n : Int) (g : List (List Int)) : Decidable (isGens n g) := by unfold isGens; infer_instance

theorem specIsGeneratorSet_ok (n : Int) (g : List (List Int)) : AC Try.prog 83 [.v (.int .i64 (n)), intss g] Hp.emp (fun _ => false) (retV (.v (.bool (decide (isGens n g))))) := by
  refine ac_of_awp (N := ⟨_, fun _ => false, fun _ _ => rfl⟩) Try.func83 rfl (by kernel_rfl) Try.ntmps83 (by simp) ?_
  simp only [argsFr, List.zipIdx_cons, List.zipIdx_nil, go_sem]
  repeat' (first | refine awp_seqK fun K hK => ?_ | (refine awp_regionK 17180008499 rfl ?_; simp only [List.map_cons, List.map_nil]; simp (maxSteps := 1000000) (dsimp := false) (implicitDefEqProofs := false) (disch := omega) only [wrap64, go_sem]) | (refine awp_regionQK 17180008499 (by kernel_rfl) (by kernel_rfl) (by kernel_rfl) ?_; simp only [List.map_cons, List.map_nil]; simp (maxSteps := 1000000) (dsimp := false) (implicitDefEqProofs := false) (disch := omega) only [wrap64, go_sem]) | refine awp_block ?_ | (refine awp_skip ?_; simp only [go_sem]) | (refine awp_exit ?_; simp only [go_sem]) | (refine awp_ret ?_; try simp only [go_sem]) | (refine awp_condP rfl ?_; try simp only [go_sem]) | (refine BrP.mk (fun h => ?_) (fun h => ?_) <;> try simp (dsimp := false) (disch := omega) only [wrap64]) | (refine Br.mk (fun h => ?_) (fun h => ?_) <;> try simp (dsimp := false) (disch := omega) only [wrap64]) | refine Ob.mk (by first | omega | (intro _ _; rfl) | trivial | (intros; trivial) | assumption | (intro i hi; have h0 : i = 0 := (by omega); subst h0; first | rfl | trivial) | (intro i hi; have h0 : i = 0 ∨ i = 1 := (by omega); rcases h0 with rfl | rfl <;> rfl) | (intro i hi; have h0 : i = 0 ∨ i = 1 ∨ i = 2 := (by omega); rcases h0 with rfl | rfl | rfl <;> rfl)) ?_ | ((first | ((first | refine atF (f := 132) ?_ | refine atQ (f := 132) ?_); (first | (refine cV (hac := inRange_ok _ _ _) (hK := ?_)) | (refine cQV (hac := inRange_ok _ _ _) (hK := ?_))))); simp (maxSteps := 1000000) (dsimp := false) (implicitDefEqProofs := false) (disch := omega) only [wrap64, go_sem]) | apply_assumption -exfalso -symm)
  all_goals (first | (show endQ _ _ _ _ _ _ _; (repeat (rename (∀ (A : Fr) (H : Hp), AWP _ _ _ _ A H → _) => hK; clear hK)); (repeat (rename (Fr → Hp → Prop) => K; clear K))) | (show Exists _; (repeat (rename (∀ (A : Fr) (H : Hp), AWP _ _ _ _ A H → _) => hK; clear hK)); (repeat (rename (Fr → Hp → Prop) => K; clear K))) | skip)
  · refine end_retB rfl rfl ?_
    simp only [Bool.false_eq_true, false_iff]
    intro h2; have := h2.2.1; omega
  · refine awp_loop (ι := Nat) (fun k => [(5, .v (.int .i64 (k))), (0, .v (.int .i64 (n))), (1, .list false 1 (g).length (cM ints [] (g)))]) (fun k => Hp.emp) (fun k => k ≤ g.length ∧ ∀ j, j < k → ((g.getD j []).length : Int) = n ∧ isPerm (g.getD j [])) (fun k => g.length - k) 0 ?_ (Sub.toL (by simp only [go_sem] <;> first | trivial | (simp only [Option.some.injEq, AV.v.injEq, AV.own.injEq, AV.list.injEq, Value.int.injEq, Value.bool.injEq, true_and, and_true]; first | omega | (simp; done)) | (simp; done) | (simp; omega)) (by (repeat' (first | exact Hp.le_emp _ | exact Hp.le_refl _ | refine Hp.le_upd ?_ ?_)); all_goals (first | rfl | (simp only [go_sem]; first | rfl | (refine cellsE ?_ ?_ <;> (simp)) | (simp))))) ?_
    · exact ⟨Nat.zero_le _, fun j h => absurd h (Nat.not_lt_zero _)⟩
    intro k hk
    repeat' (first | refine awp_seqK fun K hK => ?_ | (refine awp_regionK 17180008499 rfl ?_; simp only [List.map_cons, List.map_nil]; simp (maxSteps := 1000000) (dsimp := false) (implicitDefEqProofs := false) (disch := omega) only [wrap64, go_sem]) | (refine awp_regionQK 17180008499 (by kernel_rfl) (by kernel_rfl) (by kernel_rfl) ?_; simp only [List.map_cons, List.map_nil]; simp (maxSteps := 1000000) (dsimp := false) (implicitDefEqProofs := false) (disch := omega) only [wrap64, go_sem]) | refine awp_block ?_ | (refine awp_skip ?_; simp only [go_sem]) | (refine awp_exit ?_; simp only [go_sem]) | (refine awp_ret ?_; try simp only [go_sem]) | (refine awp_condP rfl ?_; try simp only [go_sem]) | (refine BrP.mk (fun h => ?_) (fun h => ?_) <;> try simp (dsimp := false) (disch := omega) only [wrap64]) | (refine Br.mk (fun h => ?_) (fun h => ?_) <;> try simp (dsimp := false) (disch := omega) only [wrap64]) | refine Ob.mk (by first | omega | (intro _ _; rfl) | trivial | (intros; trivial) | assumption | (intro i hi; have h0 : i = 0 := (by omega); subst h0; first | rfl | trivial) | (intro i hi; have h0 : i = 0 ∨ i = 1 := (by omega); rcases h0 with rfl | rfl <;> rfl) | (intro i hi; have h0 : i = 0 ∨ i = 1 ∨ i = 2 := (by omega); rcases h0 with rfl | rfl | rfl <;> rfl)) ?_ | ((first | ((first | refine atF (f := 119) ?_ | refine atQ (f := 119) ?_); (first | (refine cV (hac := specIsPermutation_ok _) (hK := ?_)) | (refine cQV (hac := specIsPermutation_ok _) (hK := ?_))))); simp (maxSteps := 1000000) (dsimp := false) (implicitDefEqProofs := false) (disch := omega) only [wrap64, go_sem]) | apply_assumption -exfalso -symm)
    all_goals (first | (show endQ _ _ _ _ _ _ _; (repeat (rename (∀ (A : Fr) (H : Hp), AWP _ _ _ _ A H → _) => hK; clear hK)); (repeat (rename (Fr → Hp → Prop) => K; clear K))) | (show Exists _; (repeat (rename (∀ (A : Fr) (H : Hp), AWP _ _ _ _ A H → _) => hK; clear hK)); (repeat (rename (Fr → Hp → Prop) => K; clear K))) | skip)
    · refine ⟨k + 1, ?_, ?_, Sub.toL (by simp only [go_sem] <;> first | trivial | (simp only [Option.some.injEq, AV.v.injEq, AV.own.injEq, AV.list.injEq, Value.int.injEq, Value.bool.injEq, true_and, and_true]; first | omega | (simp; done)) | (simp; done) | (simp; omega)) (by (repeat' (first | exact Hp.le_emp _ | exact Hp.le_refl _ | refine Hp.le_upd ?_ ?_)); all_goals (first | rfl | (simp only [go_sem]; first | rfl | (refine cellsE ?_ ?_ <;> (simp)) | (simp))))⟩
      · refine ⟨by omega, fun j hj => ?_⟩
        by_cases h' : j = k
        · subst h'; exact ⟨by assumption, by assumption⟩
        · exact hk.2 j (by omega)
      · omega
    · refine end_retB rfl rfl ?_
      simp only [Bool.false_eq_true, false_iff]
      intro h2; exact ‹¬ isPerm _› (h2.2.2 k (by omega)).2
    · refine end_retB rfl rfl ?_
      simp only [Bool.false_eq_true, false_iff]
      intro h2; exact ‹¬ (_ = _)› (h2.2.2 k (by omega)).1
    · refine end_retB rfl rfl ?_
      simp only [true_iff]
      exact ⟨by omega, by omega, fun j hj => hk.2 j (by omega)⟩
  · refine end_retB rfl rfl ?_
    simp only [Bool.false_eq_true, false_iff]
    intro h2; have := h2.1; omega

/-- A letter of a text, as a number. -/
def bt (s : ByteArray) (i : Nat) : Int := ((s.data.toList.getD i 0).toNat : Int)
theorem bt_fold (s : ByteArray) (i : Nat) : ((s.data.toList.getD i 0).toNat : Int) = bt s i := rfl
theorem bt_range (s : ByteArray) (i : Nat) : 0 ≤ bt s i ∧ bt s i ≤ 255 := by
  unfold bt; have := (s.data.toList.getD i 0).toNat_lt; omega
theorem wrap_bt (s : ByteArray) (i : Nat) : IntKind.i64.wrap (bt s i) = bt s i := by
  have := bt_range s i; exact wrap64 (by omega)
def isName (s : ByteArray) (i : Nat) : Prop := (65 ≤ bt s i ∧ bt s i ≤ 90) ∧ ∀ k, k < i → bt s k ≠ bt s i
instance (s : ByteArray) (i : Nat) : Decidable (isName s i) := by unfold isName; infer_instance

theorem isMoveName_ok (s : ByteArray) (i : Nat) (hi : i < s.size) (hs : s.size ≤ 1048576) : AC Try.prog 248 [.v (.string (s)), .v (.int .i64 (i))] Hp.emp (fun _ => false) (retV (.v (.bool (decide (isName s i))))) := by
  refine ac_of_awp (N := ⟨_, fun _ => false, fun _ _ => rfl⟩) Try.func248 rfl (by kernel_rfl) Try.ntmps248 (by simp) ?_
  simp only [argsFr, List.zipIdx_cons, List.zipIdx_nil, go_sem]
  repeat' (first | refine awp_seqK fun K hK => ?_ | (refine awp_regionK 134512691 rfl ?_; simp only [List.map_cons, List.map_nil]; simp (maxSteps := 1000000) (dsimp := false) (implicitDefEqProofs := false) (disch := omega) only [wrap64, go_sem, bt_fold]) | (refine awp_regionQK 134512691 (by kernel_rfl) (by kernel_rfl) (by kernel_rfl) ?_; simp only [List.map_cons, List.map_nil]; simp (maxSteps := 1000000) (dsimp := false) (implicitDefEqProofs := false) (disch := omega) only [wrap64, go_sem, bt_fold]) | refine awp_block ?_ | (refine awp_skip ?_; simp only [go_sem, bt_fold]) | (refine awp_exit ?_; simp only [go_sem, bt_fold]) | (refine awp_ret ?_; try simp only [go_sem, bt_fold]) | (refine awp_condP rfl ?_; try simp only [go_sem, bt_fold]) | (refine BrP.mk (fun h => ?_) (fun h => ?_) <;> try simp (dsimp := false) (disch := omega) only [wrap64]) | (refine Br.mk (fun h => ?_) (fun h => ?_) <;> try simp (dsimp := false) (disch := omega) only [wrap64]) | refine Ob.mk (by first | omega | (intro _ _; rfl) | trivial | (intros; trivial) | assumption | (intro i hi; have h0 : i = 0 := (by omega); subst h0; first | rfl | trivial) | (intro i hi; have h0 : i = 0 ∨ i = 1 := (by omega); rcases h0 with rfl | rfl <;> rfl) | (intro i hi; have h0 : i = 0 ∨ i = 1 ∨ i = 2 := (by omega); rcases h0 with rfl | rfl | rfl <;> rfl)) ?_ | apply_assumption -exfalso -symm)
  all_goals (first | (show endQ _ _ _ _ _ _ _; (repeat (rename (∀ (A : Fr) (H : Hp), AWP _ _ _ _ A H → _) => hK; clear hK)); (repeat (rename (Fr → Hp → Prop) => K; clear K))) | (show Exists _; (repeat (rename (∀ (A : Fr) (H : Hp), AWP _ _ _ _ A H → _) => hK; clear hK)); (repeat (rename (Fr → Hp → Prop) => K; clear K))) | skip)
  rotate_right
  · refine awp_loop (ι := Nat) (fun k => [(5, .v (.int .i64 (k))), (0, .v (.string (s))), (1, .v (.int .i64 (i)))]) (fun k => Hp.emp) (fun k => k ≤ i ∧ ∀ j, j < k → bt s j ≠ bt s i) (fun k => i - k) 0 ?_ (Sub.toL (by simp only [go_sem] <;> first | trivial | (simp only [Option.some.injEq, AV.v.injEq, AV.own.injEq, AV.list.injEq, Value.int.injEq, Value.bool.injEq, true_and, and_true]; first | omega | (simp; done)) | (simp; done) | (simp; omega)) (by (repeat' (first | exact Hp.le_emp _ | exact Hp.le_refl _ | refine Hp.le_upd ?_ ?_)); all_goals (first | rfl | (simp only [go_sem]; first | rfl | (refine cellsE ?_ ?_ <;> (simp)) | (simp))))) ?_
    · exact ⟨Nat.zero_le _, fun j h => absurd h (Nat.not_lt_zero _)⟩
    intro k hk
    repeat' (first | refine awp_seqK fun K hK => ?_ | (refine awp_regionK 134512691 rfl ?_; simp only [List.map_cons, List.map_nil]; simp (maxSteps := 1000000) (dsimp := false) (implicitDefEqProofs := false) (disch := omega) only [wrap64, go_sem, bt_fold]) | (refine awp_regionQK 134512691 (by kernel_rfl) (by kernel_rfl) (by kernel_rfl) ?_; simp only [List.map_cons, List.map_nil]; simp (maxSteps := 1000000) (dsimp := false) (implicitDefEqProofs := false) (disch := omega) only [wrap64, go_sem, bt_fold]) | refine awp_block ?_ | (refine awp_skip ?_; simp only [go_sem, bt_fold]) | (refine awp_exit ?_; simp only [go_sem, bt_fold]) | (refine awp_ret ?_; try simp only [go_sem, bt_fold]) | (refine awp_condP rfl ?_; try simp only [go_sem, bt_fold]) | (refine BrP.mk (fun h => ?_) (fun h => ?_) <;> try simp (dsimp := false) (disch := omega) only [wrap64]) | (refine Br.mk (fun h => ?_) (fun h => ?_) <;> try simp (dsimp := false) (disch := omega) only [wrap64]) | refine Ob.mk (by first | omega | (intro _ _; rfl) | trivial | (intros; trivial) | assumption | (intro i hi; have h0 : i = 0 := (by omega); subst h0; first | rfl | trivial) | (intro i hi; have h0 : i = 0 ∨ i = 1 := (by omega); rcases h0 with rfl | rfl <;> rfl) | (intro i hi; have h0 : i = 0 ∨ i = 1 ∨ i = 2 := (by omega); rcases h0 with rfl | rfl | rfl <;> rfl)) ?_ | apply_assumption -exfalso -symm)
    all_goals (first | (show endQ _ _ _ _ _ _ _; (repeat (rename (∀ (A : Fr) (H : Hp), AWP _ _ _ _ A H → _) => hK; clear hK)); (repeat (rename (Fr → Hp → Prop) => K; clear K))) | (show Exists _; (repeat (rename (∀ (A : Fr) (H : Hp), AWP _ _ _ _ A H → _) => hK; clear hK)); (repeat (rename (Fr → Hp → Prop) => K; clear K))) | skip)
    · refine end_retB rfl rfl ?_
      simp only [Bool.false_eq_true, false_iff]
      intro h2; exact h2.2 k (by omega) (by assumption)
    · refine ⟨k + 1, ?_, ?_, Sub.toL (by simp only [go_sem] <;> first | trivial | (simp only [Option.some.injEq, AV.v.injEq, AV.own.injEq, AV.list.injEq, Value.int.injEq, Value.bool.injEq, true_and, and_true]; first | omega | (simp; done)) | (simp; done) | (simp; omega)) (by (repeat' (first | exact Hp.le_emp _ | exact Hp.le_refl _ | refine Hp.le_upd ?_ ?_)); all_goals (first | rfl | (simp only [go_sem]; first | rfl | (refine cellsE ?_ ?_ <;> (simp)) | (simp))))⟩
      · refine ⟨by omega, fun j hj => ?_⟩
        by_cases h' : j = k
        · subst h'; assumption
        · exact hk.2 j (by omega)
      · omega
    · refine end_retB rfl rfl ?_
      simp only [true_iff]
      exact ⟨by omega, fun j hj => hk.2 j (by omega)⟩
  all_goals (refine end_retB rfl rfl ?_; simp only [Bool.false_eq_true, false_iff, isName]; omega)

def isPz (p : Pz) : Prop := isGens p.n p.m ∧ p.m.length ≠ 0 ∧ p.s.size = p.m.length ∧ ∀ i, i < p.s.size → isName p.s i
instance (p : Pz) : Decidable (isPz p) := by unfold isPz; infer_instance

theorem specIsValidPuzzle_ok (p : Pz) : AC Try.prog 154 [pz p] Hp.emp (fun _ => false) (retV (.v (.bool (decide (isPz p))))) := by
  refine ac_of_awp (N := ⟨_, fun _ => false, fun _ _ => rfl⟩) Try.func154 rfl (by kernel_rfl) Try.ntmps154 (by simp) ?_
  simp only [argsFr, List.zipIdx_cons, List.zipIdx_nil, go_sem]
  repeat' (first | refine awp_seqK fun K hK => ?_ | (refine awp_regionK 69273124879 rfl ?_; simp only [List.map_cons, List.map_nil]; simp (maxSteps := 1000000) (dsimp := false) (implicitDefEqProofs := false) (disch := omega) only [wrap64, go_sem]) | (refine awp_regionQK 69273124879 (by kernel_rfl) (by kernel_rfl) (by kernel_rfl) ?_; simp only [List.map_cons, List.map_nil]; simp (maxSteps := 1000000) (dsimp := false) (implicitDefEqProofs := false) (disch := omega) only [wrap64, go_sem]) | refine awp_block ?_ | (refine awp_skip ?_; simp only [go_sem]) | (refine awp_exit ?_; simp only [go_sem]) | (refine awp_ret ?_; try simp only [go_sem]) | (refine awp_condP rfl ?_; try simp only [go_sem]) | (refine BrP.mk (fun h => ?_) (fun h => ?_) <;> try simp (dsimp := false) (disch := omega) only [wrap64]) | (refine Br.mk (fun h => ?_) (fun h => ?_) <;> try simp (dsimp := false) (disch := omega) only [wrap64]) | refine Ob.mk (by first | omega | (intro _ _; rfl) | trivial | (intros; trivial) | assumption | (intro i hi; have h0 : i = 0 := (by omega); subst h0; first | rfl | trivial) | (intro i hi; have h0 : i = 0 ∨ i = 1 := (by omega); rcases h0 with rfl | rfl <;> rfl) | (intro i hi; have h0 : i = 0 ∨ i = 1 ∨ i = 2 := (by omega); rcases h0 with rfl | rfl | rfl <;> rfl)) ?_ | ((first | ((first | refine atF (f := 83) ?_ | refine atQ (f := 83) ?_); (first | (refine cV (hac := specIsGeneratorSet_ok _ _) (hK := ?_)) | (refine cQV (hac := specIsGeneratorSet_ok _ _) (hK := ?_))))); simp (maxSteps := 1000000) (dsimp := false) (implicitDefEqProofs := false) (disch := omega) only [wrap64, go_sem]) | apply_assumption -exfalso -symm)
  all_goals (first | (show endQ _ _ _ _ _ _ _; (repeat (rename (∀ (A : Fr) (H : Hp), AWP _ _ _ _ A H → _) => hK; clear hK)); (repeat (rename (Fr → Hp → Prop) => K; clear K))) | (show Exists _; (repeat (rename (∀ (A : Fr) (H : Hp), AWP _ _ _ _ A H → _) => hK; clear hK)); (repeat (rename (Fr → Hp → Prop) => K; clear K))) | skip)
  rotate_left
  · have hg : isGens p.n p.m := by assumption
    have hl := hg.2.1
    refine awp_loop (ι := Nat) (fun k => [(3, .v (.int .i64 (k))), (1, .ref 1 0)]) (fun k => Hp.emp.upd 1 (.cells 3 (vecF [.v (.int .i64 p.n), .v (.string p.s), .list false 1 (p.m).length (cM ints [] (p.m))]))) (fun k => k ≤ p.s.size ∧ ∀ j, j < k → isName p.s j) (fun k => p.s.size - k) 0 ?_ (Sub.toL (by simp only [go_sem] <;> first | trivial | (simp only [Option.some.injEq, AV.v.injEq, AV.own.injEq, AV.list.injEq, Value.int.injEq, Value.bool.injEq, true_and, and_true]; first | omega | (simp; done)) | (simp; done) | (simp; omega)) (by (repeat' (first | exact Hp.le_emp _ | exact Hp.le_refl _ | refine Hp.le_upd ?_ ?_)); all_goals (first | rfl | (simp only [go_sem]; first | rfl | (refine cellsE ?_ ?_ <;> (simp)) | (simp))))) ?_
    · exact ⟨Nat.zero_le _, fun j h => absurd h (Nat.not_lt_zero _)⟩
    intro k hk
    repeat' (first | refine awp_seqK fun K hK => ?_ | (refine awp_regionK 69273124879 rfl ?_; simp only [List.map_cons, List.map_nil]; simp (maxSteps := 1000000) (dsimp := false) (implicitDefEqProofs := false) (disch := omega) only [wrap64, go_sem]) | (refine awp_regionQK 69273124879 (by kernel_rfl) (by kernel_rfl) (by kernel_rfl) ?_; simp only [List.map_cons, List.map_nil]; simp (maxSteps := 1000000) (dsimp := false) (implicitDefEqProofs := false) (disch := omega) only [wrap64, go_sem]) | refine awp_block ?_ | (refine awp_skip ?_; simp only [go_sem]) | (refine awp_exit ?_; simp only [go_sem]) | (refine awp_ret ?_; try simp only [go_sem]) | (refine awp_condP rfl ?_; try simp only [go_sem]) | (refine BrP.mk (fun h => ?_) (fun h => ?_) <;> try simp (dsimp := false) (disch := omega) only [wrap64]) | (refine Br.mk (fun h => ?_) (fun h => ?_) <;> try simp (dsimp := false) (disch := omega) only [wrap64]) | refine Ob.mk (by first | omega | (intro _ _; rfl) | trivial | (intros; trivial) | assumption | (intro i hi; have h0 : i = 0 := (by omega); subst h0; first | rfl | trivial) | (intro i hi; have h0 : i = 0 ∨ i = 1 := (by omega); rcases h0 with rfl | rfl <;> rfl) | (intro i hi; have h0 : i = 0 ∨ i = 1 ∨ i = 2 := (by omega); rcases h0 with rfl | rfl | rfl <;> rfl)) ?_ | ((first | ((first | refine atF (f := 248) ?_ | refine atQ (f := 248) ?_); (first | (refine cV (hac := isMoveName_ok _ k (by omega) (by omega)) (hK := ?_)) | (refine cQV (hac := isMoveName_ok _ k (by omega) (by omega)) (hK := ?_))))); simp (maxSteps := 1000000) (dsimp := false) (implicitDefEqProofs := false) (disch := omega) only [wrap64, go_sem]) | apply_assumption -exfalso -symm)
    all_goals (first | (show endQ _ _ _ _ _ _ _; (repeat (rename (∀ (A : Fr) (H : Hp), AWP _ _ _ _ A H → _) => hK; clear hK)); (repeat (rename (Fr → Hp → Prop) => K; clear K))) | (show Exists _; (repeat (rename (∀ (A : Fr) (H : Hp), AWP _ _ _ _ A H → _) => hK; clear hK)); (repeat (rename (Fr → Hp → Prop) => K; clear K))) | skip)
    · refine ⟨k + 1, ?_, ?_, Sub.toL (by simp only [go_sem] <;> first | trivial | (simp only [Option.some.injEq, AV.v.injEq, AV.own.injEq, AV.list.injEq, Value.int.injEq, Value.bool.injEq, true_and, and_true]; first | omega | (simp; done)) | (simp; done) | (simp; omega)) (by (repeat' (first | exact Hp.le_emp _ | exact Hp.le_refl _ | refine Hp.le_upd ?_ ?_)); all_goals (first | rfl | (simp only [go_sem]; first | rfl | (refine cellsE ?_ ?_ <;> (simp)) | (simp))))⟩
      · refine ⟨by omega, fun j hj => ?_⟩
        by_cases h' : j = k
        · subst h'; assumption
        · exact hk.2 j (by omega)
      · omega
    · refine end_retB rfl rfl ?_
      simp only [Bool.false_eq_true, false_iff]
      intro h2; exact ‹¬ isName _ _› (h2.2.2.2 k (by omega))
    · refine end_retB rfl rfl ?_
      simp only [true_iff]
      exact ⟨hg, by omega, by omega, fun j hj => hk.2 j (by omega)⟩
  all_goals (refine end_retB rfl rfl ?_; simp only [Bool.false_eq_true, false_iff, isPz]; first | omega | (intro h2; exact ‹¬ isGens _ _› h2.1))
end Go.Proofs.Ytcfnbahpdlmcpaa
end
section
namespace Go.Proofs.Ytcfnbahpdlmcpaa
open Go.Av
set_option linter.unusedSimpArgs false
set_option linter.unusedVariables false
attribute [local irreducible] AWP CallG Ob Br BrP Go.Av.Sub endQ AOps OpV AC thenA blkA opsVC opVC withA withArgs opsQ opQ CallQ withA2 withArgs2

open Go.Plain
def nats (p : List Int) : List Nat := p.map Int.toNat
def inB (p : List Int) (k : Nat) : Prop := ∀ j, j < k → 0 ≤ p.getD j 0 ∧ p.getD j 0 ≤ (p.length : Int) - 1

theorem nats_lt {p : List Int} {k : Nat} (hk : k ≤ p.length) (h : inB p k) : ∀ x ∈ nats (p.take k), x < p.length := by
  intro x hx
  simp only [nats, List.mem_map] at hx
  obtain ⟨y, hy, rfl⟩ := hx
  obtain ⟨j, hj, rfl⟩ := mem_getD.1 hy
  have hj' : j < k := by simp at hj; omega
  have e : (p.take k).getD j 0 = p.getD j 0 := by simp [hj']
  have := h j hj'
  rw [e]; omega

theorem mask_step {p : List Int} {k : Nat} (hk : k < p.length) : mask (nats (p.take (k + 1))) = mask (nats (p.take k)) ||| 2 ^ (p.getD k 0).toNat := by
  rw [← mask_snoc]
  congr 1
  rw [List.take_succ_eq_append_getElem hk, nats, List.map_append]
  have e : p.getD k 0 = p[k] := by simp [hk]
  rw [e]; rfl

theorem isPerm_iff (p : List Int) (h1 : 1 ≤ p.length ∧ p.length ≤ 20) (hb : inB p p.length) : mask (nats p) = 2 ^ p.length - 1 ↔ isPerm p := by
  have hlt := nats_lt (Nat.le_refl _) hb
  rw [List.take_length] at hlt
  rw [mask_full hlt, ← nodup_iff_all (by simp [nats]) hlt]
  constructor
  · intro hn
    refine ⟨h1, fun j hj => ⟨hb j hj, fun hm => ?_⟩⟩
    obtain ⟨i, hi, e⟩ := mem_getD.1 hm
    have hi' : i < j := by simp at hi; omega
    have e2 : p[i]'(by omega) = p[j] := by
      have : (p.take j).getD i 0 = p[i]'(by omega) := by
        have : i < p.length := by omega
        simp [hi', this]
      rw [← this, e]; simp [hj]
    have := List.pairwise_iff_getElem.1 hn i j (by simp [nats]; omega) (by simp [nats]; omega) hi'
    exact this (by simp [nats, e2])
  · intro h
    refine List.pairwise_iff_getElem.2 fun i j hi hj hij => ?_
    simp only [nats, List.length_map] at hi hj
    simp only [nats, List.getElem_map]
    intro e
    have b1 := hb i hi
    have b2 := hb j hj
    have e1 : p.getD i 0 = p[i] := by simp [hi]
    have e2 : p.getD j 0 = p[j] := by simp [hj]
    refine (h.2 j hj).2 (mem_getD.2 ⟨i, by simp; omega, ?_⟩)
    have e3 : (p.take j).getD i 0 = p[i] := by simp [hij, hi]
    rw [e3, e2]
    omega

theorem shlE (x : Int) (h : 0 ≤ x ∧ x < 62) : IntKind.i64.wrap (1 * 2 ^ min x.toNat 64) = ((2 ^ x.toNat : Nat) : Int) := by
  have := shl_nat x.toNat (by omega)
  have e : ((x.toNat : Nat) : Int).toNat = x.toNat := by omega
  rw [e] at this
  exact this
theorem stepE {p : List Int} {k : Nat} (hk : k < p.length) (hp : p.length ≤ 20) (h : inB p k) (hx : 0 ≤ p.getD k 0 ∧ p.getD k 0 ≤ (p.length : Int) - 1) :
    IntKind.i64.wrap ((BitVec.ofInt IntKind.i64.bits ((mask (nats (p.take k)) : Nat) : Int) ||| BitVec.ofInt IntKind.i64.bits (IntKind.i64.wrap (1 * 2 ^ min (p.getD k 0).toNat 64))).toNat : Int) = ((mask (nats (p.take (k + 1))) : Nat) : Int) := by
  have b1 : mask (nats (p.take k)) < 2 ^ p.length := mask_lt (nats_lt (Nat.le_of_lt hk) h)
  have b2 : 2 ^ p.length ≤ 2 ^ 20 := Nat.pow_le_pow_right (by omega) hp
  have b3 : 2 ^ (p.getD k 0).toNat ≤ 2 ^ 20 := Nat.pow_le_pow_right (by omega) (by omega)
  rw [shlE _ (by omega), or_nat _ _ (by omega) (by omega), mask_step hk]
theorem fullE (n : Nat) (h : n ≤ 20) : IntKind.i64.wrap (IntKind.i64.wrap (1 * 2 ^ min n 64) - 1) = ((2 ^ n - 1 : Nat) : Int) := by
  have := shlE (n : Int) (by omega)
  have e : ((n : Nat) : Int).toNat = n := by omega
  rw [e] at this
  have b : 2 ^ n ≤ 2 ^ 20 := Nat.pow_le_pow_right (by omega) h
  have b2 : 0 < 2 ^ n := Nat.two_pow_pos n
  rw [this]
  generalize 2 ^ n = m at b b2
  rw [IntKind.wrap_i64]; omega

theorem implIsPermutation_ok (p : List Int) : AC Try.prog 151 [ints p] Hp.emp (fun _ => false) (retV (.v (.bool (decide (isPerm p))))) := by
  refine ac_of_awp (N := ⟨_, fun _ => false, fun _ _ => rfl⟩) Try.func151 rfl (by kernel_rfl) Try.ntmps151 (by simp) ?_
  simp only [argsFr, List.zipIdx_cons, List.zipIdx_nil, go_sem]
  repeat' (first | refine awp_seqK fun K hK => ?_ | (refine awp_regionK 2113069 rfl ?_; simp only [List.map_cons, List.map_nil]; simp (maxSteps := 1000000) (dsimp := false) (implicitDefEqProofs := false) (disch := omega) only [wrap64, go_sem]) | (refine awp_regionQK 2113069 (by kernel_rfl) (by kernel_rfl) (by kernel_rfl) ?_; simp only [List.map_cons, List.map_nil]; simp (maxSteps := 1000000) (dsimp := false) (implicitDefEqProofs := false) (disch := omega) only [wrap64, go_sem]) | refine awp_block ?_ | (refine awp_skip ?_; simp only [go_sem]) | (refine awp_exit ?_; simp only [go_sem]) | (refine awp_ret ?_; try simp only [go_sem]) | (refine awp_condP rfl ?_; try simp only [go_sem]) | (refine BrP.mk (fun h => ?_) (fun h => ?_) <;> try simp (dsimp := false) (disch := omega) only [wrap64]) | (refine Br.mk (fun h => ?_) (fun h => ?_) <;> try simp (dsimp := false) (disch := omega) only [wrap64]) | refine Ob.mk (by first | omega | (intro _ _; rfl) | trivial | (intros; trivial) | assumption | (intro i hi; have h0 : i = 0 := (by omega); subst h0; first | rfl | trivial) | (intro i hi; have h0 : i = 0 ∨ i = 1 := (by omega); rcases h0 with rfl | rfl <;> rfl) | (intro i hi; have h0 : i = 0 ∨ i = 1 ∨ i = 2 := (by omega); rcases h0 with rfl | rfl | rfl <;> rfl)) ?_ | ((first | ((first | refine atF (f := 138) ?_ | refine atQ (f := 138) ?_); (first | (refine cV (hac := within_ok _ _ _) (hK := ?_)) | (refine cQV (hac := within_ok _ _ _) (hK := ?_)))) | ((first | refine atF (f := 139) ?_ | refine atQ (f := 139) ?_); (first | (refine cV (hac := length_ok _) (hK := ?_)) | (refine cQV (hac := length_ok _) (hK := ?_))))); simp (maxSteps := 1000000) (dsimp := false) (implicitDefEqProofs := false) (disch := omega) only [wrap64, go_sem]) | apply_assumption -exfalso -symm)
  all_goals (first | (show endQ _ _ _ _ _ _ _; (repeat (rename (∀ (A : Fr) (H : Hp), AWP _ _ _ _ A H → _) => hK; clear hK)); (repeat (rename (Fr → Hp → Prop) => K; clear K))) | (show Exists _; (repeat (rename (∀ (A : Fr) (H : Hp), AWP _ _ _ _ A H → _) => hK; clear hK)); (repeat (rename (Fr → Hp → Prop) => K; clear K))) | skip)
  · have h1 : 1 ≤ p.length ∧ p.length ≤ 20 := by omega
    refine awp_loop (ι := Nat) (fun k => [(12, .v (.int .i64 (k))), (11, .v (.int .i64 (p.length))), (10, .list false 1 (p).length (cM iv 0 (p))), (3, .v (.int .i64 ((mask (nats (p.take k)) : Nat)))), (0, .list false 1 (p).length (cM iv 0 (p)))]) (fun k => Hp.emp) (fun k => k ≤ p.length ∧ inB p k) (fun k => p.length - k) 0 ?_ (Sub.toL (by simp only [go_sem] <;> first | trivial | (simp only [Option.some.injEq, AV.v.injEq, AV.own.injEq, AV.list.injEq, Value.int.injEq, Value.bool.injEq, true_and, and_true]; first | omega | (simp [mask, nats]; done)) | (simp [mask, nats]; done) | (simp [mask, nats]; omega)) (by (repeat' (first | exact Hp.le_emp _ | exact Hp.le_refl _ | refine Hp.le_upd ?_ ?_)); all_goals (first | rfl | (simp only [go_sem]; first | rfl | (refine cellsE ?_ ?_ <;> (simp [mask, nats])) | (simp [mask, nats]))))) ?_
    · exact ⟨Nat.zero_le _, fun j h => absurd h (Nat.not_lt_zero _)⟩
    intro k hk
    repeat' (first | refine awp_seqK fun K hK => ?_ | (refine awp_regionK 2113069 rfl ?_; simp only [List.map_cons, List.map_nil]; simp (maxSteps := 1000000) (dsimp := false) (implicitDefEqProofs := false) (disch := omega) only [wrap64, go_sem]) | (refine awp_regionQK 2113069 (by kernel_rfl) (by kernel_rfl) (by kernel_rfl) ?_; simp only [List.map_cons, List.map_nil]; simp (maxSteps := 1000000) (dsimp := false) (implicitDefEqProofs := false) (disch := omega) only [wrap64, go_sem]) | refine awp_block ?_ | (refine awp_skip ?_; simp only [go_sem]) | (refine awp_exit ?_; simp only [go_sem]) | (refine awp_ret ?_; try simp only [go_sem]) | (refine awp_condP rfl ?_; try simp only [go_sem]) | (refine BrP.mk (fun h => ?_) (fun h => ?_) <;> try simp (dsimp := false) (disch := omega) only [wrap64]) | (refine Br.mk (fun h => ?_) (fun h => ?_) <;> try simp (dsimp := false) (disch := omega) only [wrap64]) | refine Ob.mk (by first | omega | (intro _ _; rfl) | trivial | (intros; trivial) | assumption | (intro i hi; have h0 : i = 0 := (by omega); subst h0; first | rfl | trivial) | (intro i hi; have h0 : i = 0 ∨ i = 1 := (by omega); rcases h0 with rfl | rfl <;> rfl) | (intro i hi; have h0 : i = 0 ∨ i = 1 ∨ i = 2 := (by omega); rcases h0 with rfl | rfl | rfl <;> rfl)) ?_ | ((first | ((first | refine atF (f := 138) ?_ | refine atQ (f := 138) ?_); (first | (refine cV (hac := within_ok _ _ _) (hK := ?_)) | (refine cQV (hac := within_ok _ _ _) (hK := ?_)))) | ((first | refine atF (f := 139) ?_ | refine atQ (f := 139) ?_); (first | (refine cV (hac := length_ok _) (hK := ?_)) | (refine cQV (hac := length_ok _) (hK := ?_))))); simp (maxSteps := 1000000) (dsimp := false) (implicitDefEqProofs := false) (disch := omega) only [wrap64, go_sem]) | apply_assumption -exfalso -symm)
    all_goals (first | (show endQ _ _ _ _ _ _ _; (repeat (rename (∀ (A : Fr) (H : Hp), AWP _ _ _ _ A H → _) => hK; clear hK)); (repeat (rename (Fr → Hp → Prop) => K; clear K))) | (show Exists _; (repeat (rename (∀ (A : Fr) (H : Hp), AWP _ _ _ _ A H → _) => hK; clear hK)); (repeat (rename (Fr → Hp → Prop) => K; clear K))) | skip)
    · rw [stepE (by omega) h1.2 hk.2 ‹_›]
      refine ⟨k + 1, ?_, ?_, Sub.toL (by simp only [go_sem] <;> first | trivial | (simp only [Option.some.injEq, AV.v.injEq, AV.own.injEq, AV.list.injEq, Value.int.injEq, Value.bool.injEq, true_and, and_true]; first | omega | (simp; done)) | (simp; done) | (simp; omega)) (by (repeat' (first | exact Hp.le_emp _ | exact Hp.le_refl _ | refine Hp.le_upd ?_ ?_)); all_goals (first | rfl | (simp only [go_sem]; first | rfl | (refine cellsE ?_ ?_ <;> (simp)) | (simp))))⟩
      · refine ⟨by omega, fun j hj => ?_⟩
        by_cases h' : j = k
        · subst h'; assumption
        · exact hk.2 j (by omega)
      · omega
    · refine end_retB rfl rfl ?_
      simp only [Bool.false_eq_true, false_iff]
      intro h2; exact ‹¬ (_ ∧ _)› (h2.2 k (by omega)).1
    · have e : k = p.length := by omega
      subst e
      refine end_retB rfl rfl ?_
      rw [fullE _ h1.2, List.take_length, decide_eq_true_eq, ← isPerm_iff p h1 hk.2]
      omega
  · refine end_retB rfl rfl ?_
    simp only [Bool.false_eq_true, false_iff]
    intro h2; have := h2.1; omega
end Go.Proofs.Ytcfnbahpdlmcpaa
end
section
namespace Go.Proofs.Ytcfnbahpdlmcpaa
open Go.Av
set_option linter.unusedSimpArgs false
set_option linter.unusedVariables false
attribute [local irreducible] AWP CallG Ob Br BrP Go.Av.Sub endQ AOps OpV AC thenA blkA opsVC opVC withA withArgs opsQ opQ CallQ withA2 withArgs2

def fidx {α : Type} (p : α → Bool) (xs : List α) : Int := match xs.findIdx? p with | some i => (i : Int) | none => -1
theorem fidx_hit {α : Type} (p : α → Bool) (xs : List α) (d : α) (k : Nat) (hk : k < xs.length) (h1 : ∀ j, j < k → p (xs.getD j d) = false) (h2 : p (xs.getD k d) = true) : fidx p xs = k := by
  have : xs.findIdx? p = some k := by
    rw [List.findIdx?_eq_some_iff_getElem]
    have e : ∀ j (hj : j < xs.length), xs.getD j d = xs[j] := fun j hj => by simp [hj]
    refine ⟨hk, by rw [← e k hk]; exact h2, fun j hj => ?_⟩
    rw [← e j (by omega), h1 j hj]; simp
  simp [fidx, this]
theorem fidx_none {α : Type} (p : α → Bool) (xs : List α) (d : α) (h1 : ∀ j, j < xs.length → p (xs.getD j d) = false) : fidx p xs = -1 := by
  have : xs.findIdx? p = none := by
    rw [List.findIdx?_eq_none_iff]
    intro x hx
    obtain ⟨i, hi, rfl⟩ := List.getElem_of_mem hx
    have e : xs.getD i d = xs[i] := by simp [hi]
    rw [← e]; exact h1 i hi
  simp [fidx, this]
theorem fidx_nonneg {α : Type} (p : α → Bool) (xs : List α) : 0 ≤ fidx p xs ↔ xs.any p = true := by
  unfold fidx
  split
  · rename_i i h
    have := List.findIdx?_eq_some_iff_getElem.1 h
    obtain ⟨hi, h1, _⟩ := this
    simp only [Int.natCast_nonneg, true_iff, List.any_eq_true]
    exact ⟨_, List.getElem_mem hi, h1⟩
  · rename_i h
    rw [List.findIdx?_eq_none_iff] at h
    simp only [List.any_eq_true]
    constructor
    · intro h; omega
    · rintro ⟨x, hx, hp⟩; rw [h x hx] at hp; cases hp

theorem indexFuncSS_ok (xs : List (List Int)) (g : FuncId) (c : AV) (p : List Int → Bool) (hx : xs.length ≤ 1048576)
    (hg : ∀ j, j < xs.length → AC Try.prog g [ints (xs.getD j []), c] Hp.emp (fun _ => false) (retV (.v (.bool (p (xs.getD j [])))))) :
    AC Try.prog 261 [intss xs, .clo g 1 (fun _ => c)] Hp.emp (fun _ => false) (retV (.v (.int .i64 (fidx p xs)))) := by
  refine ac_of_awp (N := ⟨_, fun _ => false, fun _ _ => rfl⟩) Try.func261 rfl (by kernel_rfl) Try.ntmps261 (by simp) ?_
  simp only [argsFr, List.zipIdx_cons, List.zipIdx_nil, go_sem]
  repeat' (first | refine awp_seqK fun K hK => ?_ | (refine awp_regionK 66483 rfl ?_; simp only [List.map_cons, List.map_nil]; simp (maxSteps := 1000000) (dsimp := false) (implicitDefEqProofs := false) (disch := omega) only [wrap64, go_sem]) | (refine awp_regionQK 66483 (by kernel_rfl) (by kernel_rfl) (by kernel_rfl) ?_; simp only [List.map_cons, List.map_nil]; simp (maxSteps := 1000000) (dsimp := false) (implicitDefEqProofs := false) (disch := omega) only [wrap64, go_sem]) | refine awp_block ?_ | (refine awp_skip ?_; simp only [go_sem]) | (refine awp_exit ?_; simp only [go_sem]) | (refine awp_ret ?_; try simp only [go_sem]) | (refine awp_condP rfl ?_; try simp only [go_sem]) | (refine BrP.mk (fun h => ?_) (fun h => ?_) <;> try simp (dsimp := false) (disch := omega) only [wrap64]) | (refine Br.mk (fun h => ?_) (fun h => ?_) <;> try simp (dsimp := false) (disch := omega) only [wrap64]) | refine Ob.mk (by first | omega | (intro _ _; rfl) | trivial | (intros; trivial) | assumption | (intro i hi; have h0 : i = 0 := (by omega); subst h0; first | rfl | trivial) | (intro i hi; have h0 : i = 0 ∨ i = 1 := (by omega); rcases h0 with rfl | rfl <;> rfl) | (intro i hi; have h0 : i = 0 ∨ i = 1 ∨ i = 2 := (by omega); rcases h0 with rfl | rfl | rfl <;> rfl)) ?_ | apply_assumption -exfalso -symm)
  all_goals (first | (show endQ _ _ _ _ _ _ _; (repeat (rename (∀ (A : Fr) (H : Hp), AWP _ _ _ _ A H → _) => hK; clear hK)); (repeat (rename (Fr → Hp → Prop) => K; clear K))) | (show Exists _; (repeat (rename (∀ (A : Fr) (H : Hp), AWP _ _ _ _ A H → _) => hK; clear hK)); (repeat (rename (Fr → Hp → Prop) => K; clear K))) | skip)
  refine awp_loop (ι := Nat) (fun k => [(8, .v (.int .i64 (k))), (7, .v (.int .i64 (xs.length))), (0, .list false 1 (xs).length (cM ints [] (xs))), (1, .clo g 1 (fun _ => c))]) (fun k => Hp.emp) (fun k => k ≤ xs.length ∧ ∀ j, j < k → p (xs.getD j []) = false) (fun k => xs.length - k) 0 ?_ (Sub.toL (by simp only [go_sem] <;> first | trivial | (simp only [Option.some.injEq, AV.v.injEq, AV.own.injEq, AV.list.injEq, Value.int.injEq, Value.bool.injEq, true_and, and_true]; first | omega | (simp; done)) | (simp; done) | (simp; omega)) (by (repeat' (first | exact Hp.le_emp _ | exact Hp.le_refl _ | refine Hp.le_upd ?_ ?_)); all_goals (first | rfl | (simp only [go_sem]; first | rfl | (refine cellsE ?_ ?_ <;> (simp)) | (simp))))) ?_
  · exact ⟨Nat.zero_le _, fun j h => absurd h (Nat.not_lt_zero _)⟩
  intro k hk
  repeat' (first | refine awp_seqK fun K hK => ?_ | (refine awp_regionK 66483 rfl ?_; simp only [List.map_cons, List.map_nil]; simp (maxSteps := 1000000) (dsimp := false) (implicitDefEqProofs := false) (disch := omega) only [wrap64, go_sem]) | (refine awp_regionQK 66483 (by kernel_rfl) (by kernel_rfl) (by kernel_rfl) ?_; simp only [List.map_cons, List.map_nil]; simp (maxSteps := 1000000) (dsimp := false) (implicitDefEqProofs := false) (disch := omega) only [wrap64, go_sem]) | refine awp_block ?_ | (refine awp_skip ?_; simp only [go_sem]) | (refine awp_exit ?_; simp only [go_sem]) | (refine awp_ret ?_; try simp only [go_sem]) | (refine awp_condP rfl ?_; try simp only [go_sem]) | (refine BrP.mk (fun h => ?_) (fun h => ?_) <;> try simp (dsimp := false) (disch := omega) only [wrap64]) | (refine Br.mk (fun h => ?_) (fun h => ?_) <;> try simp (dsimp := false) (disch := omega) only [wrap64]) | refine Ob.mk (by first | omega | (intro _ _; rfl) | trivial | (intros; trivial) | assumption | (intro i hi; have h0 : i = 0 := (by omega); subst h0; first | rfl | trivial) | (intro i hi; have h0 : i = 0 ∨ i = 1 := (by omega); rcases h0 with rfl | rfl <;> rfl) | (intro i hi; have h0 : i = 0 ∨ i = 1 ∨ i = 2 := (by omega); rcases h0 with rfl | rfl | rfl <;> rfl)) ?_ | ((first | (refine cV (hac := hg k (by omega)) (hK := ?_)) | (refine cQV (hac := hg k (by omega)) (hK := ?_))); simp (maxSteps := 1000000) (dsimp := false) (implicitDefEqProofs := false) (disch := omega) only [wrap64, go_sem]) | apply_assumption -exfalso -symm)
  all_goals (first | (show endQ _ _ _ _ _ _ _; (repeat (rename (∀ (A : Fr) (H : Hp), AWP _ _ _ _ A H → _) => hK; clear hK)); (repeat (rename (Fr → Hp → Prop) => K; clear K))) | (show Exists _; (repeat (rename (∀ (A : Fr) (H : Hp), AWP _ _ _ _ A H → _) => hK; clear hK)); (repeat (rename (Fr → Hp → Prop) => K; clear K))) | skip)
  · exact end_retN rfl rfl (fidx_hit p xs [] k (by omega) hk.2 ‹_›).symm
  · refine ⟨k + 1, ?_, ?_, Sub.toL (by simp only [go_sem] <;> first | trivial | (simp only [Option.some.injEq, AV.v.injEq, AV.own.injEq, AV.list.injEq, Value.int.injEq, Value.bool.injEq, true_and, and_true]; first | omega | (simp; done)) | (simp; done) | (simp; omega)) (by (repeat' (first | exact Hp.le_emp _ | exact Hp.le_refl _ | refine Hp.le_upd ?_ ?_)); all_goals (first | rfl | (simp only [go_sem]; first | rfl | (refine cellsE ?_ ?_ <;> (simp)) | (simp))))⟩
    · refine ⟨by omega, fun j hj => ?_⟩
      by_cases h' : j = k
      · subst h'; assumption
      · exact hk.2 j (by omega)
    · omega
  · exact end_retN rfl rfl (fidx_none p xs [] fun j hj => hk.2 j (by omega)).symm

theorem containsFuncSS_ok (xs : List (List Int)) (g : FuncId) (c : AV) (p : List Int → Bool) (hx : xs.length ≤ 1048576)
    (hg : ∀ j, j < xs.length → AC Try.prog g [ints (xs.getD j []), c] Hp.emp (fun _ => false) (retV (.v (.bool (p (xs.getD j [])))))) :
    AC Try.prog 192 [intss xs, .clo g 1 (fun _ => c)] Hp.emp (fun _ => false) (retV (.v (.bool (xs.any p)))) := by
  refine ac_of_awp (N := ⟨_, fun _ => false, fun _ _ => rfl⟩) Try.func192 rfl (by kernel_rfl) Try.ntmps192 (by simp) ?_
  simp only [argsFr, List.zipIdx_cons, List.zipIdx_nil, go_sem]
  repeat' (first | refine awp_seqK fun K hK => ?_ | (refine awp_regionK 19 rfl ?_; simp only [List.map_cons, List.map_nil]; simp (maxSteps := 1000000) (dsimp := false) (implicitDefEqProofs := false) (disch := omega) only [wrap64, go_sem]) | (refine awp_regionQK 19 (by kernel_rfl) (by kernel_rfl) (by kernel_rfl) ?_; simp only [List.map_cons, List.map_nil]; simp (maxSteps := 1000000) (dsimp := false) (implicitDefEqProofs := false) (disch := omega) only [wrap64, go_sem]) | refine awp_block ?_ | (refine awp_skip ?_; simp only [go_sem]) | (refine awp_exit ?_; simp only [go_sem]) | (refine awp_ret ?_; try simp only [go_sem]) | (refine awp_condP rfl ?_; try simp only [go_sem]) | (refine BrP.mk (fun h => ?_) (fun h => ?_) <;> try simp (dsimp := false) (disch := omega) only [wrap64]) | (refine Br.mk (fun h => ?_) (fun h => ?_) <;> try simp (dsimp := false) (disch := omega) only [wrap64]) | refine Ob.mk (by first | omega | (intro _ _; rfl) | trivial | (intros; trivial) | assumption | (intro i hi; have h0 : i = 0 := (by omega); subst h0; first | rfl | trivial) | (intro i hi; have h0 : i = 0 ∨ i = 1 := (by omega); rcases h0 with rfl | rfl <;> rfl) | (intro i hi; have h0 : i = 0 ∨ i = 1 ∨ i = 2 := (by omega); rcases h0 with rfl | rfl | rfl <;> rfl)) ?_ | ((first | ((first | refine atF (f := 261) ?_ | refine atQ (f := 261) ?_); (first | (refine cV (hac := indexFuncSS_ok xs g c p hx hg) (hK := ?_)) | (refine cQV (hac := indexFuncSS_ok xs g c p hx hg) (hK := ?_))))); simp (maxSteps := 1000000) (dsimp := false) (implicitDefEqProofs := false) (disch := omega) only [wrap64, go_sem]) | apply_assumption -exfalso -symm)
  all_goals (first | (show endQ _ _ _ _ _ _ _; (repeat (rename (∀ (A : Fr) (H : Hp), AWP _ _ _ _ A H → _) => hK; clear hK)); (repeat (rename (Fr → Hp → Prop) => K; clear K))) | (show Exists _; (repeat (rename (∀ (A : Fr) (H : Hp), AWP _ _ _ _ A H → _) => hK; clear hK)); (repeat (rename (Fr → Hp → Prop) => K; clear K))) | skip)
  refine end_retV' rfl rfl ?_
  congr 2
  have := fidx_nonneg p xs
  cases hh : xs.any p
  · simp [hh] at this; simp; omega
  · simp [hh] at this; simpa using this

theorem isGenClo_ok (q : List Int) (n : Int) : AC Try.prog 193 [ints q, .ptr 1 (fun _ => .v (.int .i64 (n)))] Hp.emp (fun _ => false) (retV (.v (.bool (!decide ((q.length : Int) = n ∧ isPerm q))))) := by
  refine ac_of_awp (N := ⟨_, fun _ => false, fun _ _ => rfl⟩) Try.func193 rfl (by kernel_rfl) Try.ntmps193 (by simp) ?_
  simp only [argsFr, List.zipIdx_cons, List.zipIdx_nil, go_sem]
  repeat' (first | refine awp_seqK fun K hK => ?_ | (refine awp_regionK 11 rfl ?_; simp only [List.map_cons, List.map_nil]; simp (maxSteps := 1000000) (dsimp := false) (implicitDefEqProofs := false) (disch := omega) only [wrap64, go_sem]) | (refine awp_regionQK 11 (by kernel_rfl) (by kernel_rfl) (by kernel_rfl) ?_; simp only [List.map_cons, List.map_nil]; simp (maxSteps := 1000000) (dsimp := false) (implicitDefEqProofs := false) (disch := omega) only [wrap64, go_sem]) | refine awp_block ?_ | (refine awp_skip ?_; simp only [go_sem]) | (refine awp_exit ?_; simp only [go_sem]) | (refine awp_ret ?_; try simp only [go_sem]) | (refine awp_condP rfl ?_; try simp only [go_sem]) | (refine BrP.mk (fun h => ?_) (fun h => ?_) <;> try simp (dsimp := false) (disch := omega) only [wrap64]) | (refine Br.mk (fun h => ?_) (fun h => ?_) <;> try simp (dsimp := false) (disch := omega) only [wrap64]) | refine Ob.mk (by first | omega | (intro _ _; rfl) | trivial | (intros; trivial) | assumption | (intro i hi; have h0 : i = 0 := (by omega); subst h0; first | rfl | trivial) | (intro i hi; have h0 : i = 0 ∨ i = 1 := (by omega); rcases h0 with rfl | rfl <;> rfl) | (intro i hi; have h0 : i = 0 ∨ i = 1 ∨ i = 2 := (by omega); rcases h0 with rfl | rfl | rfl <;> rfl)) ?_ | ((first | ((first | refine atF (f := 139) ?_ | refine atQ (f := 139) ?_); (first | (refine cV (hac := length_ok _) (hK := ?_)) | (refine cQV (hac := length_ok _) (hK := ?_)))) | ((first | refine atF (f := 151) ?_ | refine atQ (f := 151) ?_); (first | (refine cV (hac := implIsPermutation_ok _) (hK := ?_)) | (refine cQV (hac := implIsPermutation_ok _) (hK := ?_))))); simp (maxSteps := 1000000) (dsimp := false) (implicitDefEqProofs := false) (disch := omega) only [wrap64, go_sem]) | apply_assumption -exfalso -symm)
  all_goals (first | (show endQ _ _ _ _ _ _ _; (repeat (rename (∀ (A : Fr) (H : Hp), AWP _ _ _ _ A H → _) => hK; clear hK)); (repeat (rename (Fr → Hp → Prop) => K; clear K))) | (show Exists _; (repeat (rename (∀ (A : Fr) (H : Hp), AWP _ _ _ _ A H → _) => hK; clear hK)); (repeat (rename (Fr → Hp → Prop) => K; clear K))) | skip)
  · exact end_retV' rfl rfl (by simp only [*, true_and])
  · exact end_retV' rfl rfl (by simp only [*, false_and, decide_false, Bool.not_false])

theorem any_gens (n : Int) (g : List (List Int)) : (g.any fun q => !decide ((q.length : Int) = n ∧ isPerm q)) = false ↔ ∀ j, j < g.length → ((g.getD j []).length : Int) = n ∧ isPerm (g.getD j []) := by
  rw [List.any_eq_false]
  constructor
  · intro h j hj
    have := h _ (List.getElem_mem hj)
    have e : g.getD j [] = g[j] := by simp [hj]
    rw [e]; simpa using this
  · intro h x hx
    obtain ⟨i, hi, rfl⟩ := List.getElem_of_mem hx
    have := h i hi
    have e : g.getD i [] = g[i] := by simp [hi]
    rw [e] at this; simpa using this

theorem implIsGeneratorSet_ok (n : Int) (g : List (List Int)) : AC Try.prog 87 [.v (.int .i64 (n)), intss g] Hp.emp (fun _ => false) (retV (.v (.bool (decide (isGens n g))))) := by
  refine ac_of_awp (N := ⟨_, fun _ => false, fun _ _ => rfl⟩) Try.func87 rfl (by kernel_rfl) Try.ntmps87 (by simp) ?_
  simp only [argsFr, List.zipIdx_cons, List.zipIdx_nil, go_sem]
  repeat' (first | refine awp_seqK fun K hK => ?_ | (refine awp_regionK 23 rfl ?_; simp only [List.map_cons, List.map_nil]; simp (maxSteps := 1000000) (dsimp := false) (implicitDefEqProofs := false) (disch := omega) only [wrap64, go_sem]) | (refine awp_regionQK 23 (by kernel_rfl) (by kernel_rfl) (by kernel_rfl) ?_; simp only [List.map_cons, List.map_nil]; simp (maxSteps := 1000000) (dsimp := false) (implicitDefEqProofs := false) (disch := omega) only [wrap64, go_sem]) | refine awp_block ?_ | (refine awp_skip ?_; simp only [go_sem]) | (refine awp_exit ?_; simp only [go_sem]) | (refine awp_ret ?_; try simp only [go_sem]) | (refine awp_condP rfl ?_; try simp only [go_sem]) | (refine BrP.mk (fun h => ?_) (fun h => ?_) <;> try simp (dsimp := false) (disch := omega) only [wrap64]) | (refine Br.mk (fun h => ?_) (fun h => ?_) <;> try simp (dsimp := false) (disch := omega) only [wrap64]) | refine Ob.mk (by first | omega | (intro _ _; rfl) | trivial | (intros; trivial) | assumption | (intro i hi; have h0 : i = 0 := (by omega); subst h0; first | rfl | trivial) | (intro i hi; have h0 : i = 0 ∨ i = 1 := (by omega); rcases h0 with rfl | rfl <;> rfl) | (intro i hi; have h0 : i = 0 ∨ i = 1 ∨ i = 2 := (by omega); rcases h0 with rfl | rfl | rfl <;> rfl)) ?_ | ((first | ((first | refine atF (f := 138) ?_ | refine atQ (f := 138) ?_); (first | (refine cV (hac := within_ok _ _ _) (hK := ?_)) | (refine cQV (hac := within_ok _ _ _) (hK := ?_)))) | ((first | refine atF (f := 192) ?_ | refine atQ (f := 192) ?_); (first | (refine cV (hac := containsFuncSS_ok g _ (.ptr 1 fun _ => .v (.int .i64 (n))) (fun q => !decide ((q.length : Int) = n ∧ isPerm q)) (by omega) (fun j _ => isGenClo_ok _ _)) (hK := ?_)) | (refine cQV (hac := containsFuncSS_ok g _ (.ptr 1 fun _ => .v (.int .i64 (n))) (fun q => !decide ((q.length : Int) = n ∧ isPerm q)) (by omega) (fun j _ => isGenClo_ok _ _)) (hK := ?_))))); simp (maxSteps := 1000000) (dsimp := false) (implicitDefEqProofs := false) (disch := omega) only [wrap64, go_sem]) | apply_assumption -exfalso -symm)
  all_goals (first | (show endQ _ _ _ _ _ _ _; (repeat (rename (∀ (A : Fr) (H : Hp), AWP _ _ _ _ A H → _) => hK; clear hK)); (repeat (rename (Fr → Hp → Prop) => K; clear K))) | (show Exists _; (repeat (rename (∀ (A : Fr) (H : Hp), AWP _ _ _ _ A H → _) => hK; clear hK)); (repeat (rename (Fr → Hp → Prop) => K; clear K))) | skip)
  · refine end_retB rfl rfl ?_
    rw [Bool.not_eq_true', any_gens]
    exact ⟨fun h => ⟨by omega, by omega, h⟩, fun h => h.2.2⟩
  all_goals (refine end_retB rfl rfl ?_; simp only [Bool.false_eq_true, false_iff, isGens]; omega)

theorem isNames_ok (s : ByteArray) (hs : s.size ≤ 140737488355328) : AC Try.prog 177 [.v (.string (s))] Hp.emp (fun _ => false) (retV (.v (.bool (decide ((1 ≤ s.size ∧ s.size ≤ 8) ∧ ∀ i, i < s.size → isName s i))))) := by
  refine ac_of_awp (N := ⟨_, fun _ => false, fun _ _ => rfl⟩) Try.func177 rfl (by kernel_rfl) Try.ntmps177 (by simp) ?_
  simp only [argsFr, List.zipIdx_cons, List.zipIdx_nil, go_sem]
  repeat' (first | refine awp_seqK fun K hK => ?_ | (refine awp_regionK 67600861 rfl ?_; simp only [List.map_cons, List.map_nil]; simp (maxSteps := 1000000) (dsimp := false) (implicitDefEqProofs := false) (disch := omega) only [wrap64, go_sem, bt_fold]) | (refine awp_regionQK 67600861 (by kernel_rfl) (by kernel_rfl) (by kernel_rfl) ?_; simp only [List.map_cons, List.map_nil]; simp (maxSteps := 1000000) (dsimp := false) (implicitDefEqProofs := false) (disch := omega) only [wrap64, go_sem, bt_fold]) | refine awp_block ?_ | (refine awp_skip ?_; simp only [go_sem, bt_fold]) | (refine awp_exit ?_; simp only [go_sem, bt_fold]) | (refine awp_ret ?_; try simp only [go_sem, bt_fold]) | (refine awp_condP rfl ?_; try simp only [go_sem, bt_fold]) | (refine BrP.mk (fun h => ?_) (fun h => ?_) <;> try simp (dsimp := false) (disch := omega) only [wrap64]) | (refine Br.mk (fun h => ?_) (fun h => ?_) <;> try simp (dsimp := false) (disch := omega) only [wrap64]) | refine Ob.mk (by first | omega | (intro _ _; rfl) | trivial | (intros; trivial) | assumption | (intro i hi; have h0 : i = 0 := (by omega); subst h0; first | rfl | trivial) | (intro i hi; have h0 : i = 0 ∨ i = 1 := (by omega); rcases h0 with rfl | rfl <;> rfl) | (intro i hi; have h0 : i = 0 ∨ i = 1 ∨ i = 2 := (by omega); rcases h0 with rfl | rfl | rfl <;> rfl)) ?_ | ((first | ((first | refine atF (f := 138) ?_ | refine atQ (f := 138) ?_); (first | (refine cV (hac := within_ok _ _ _) (hK := ?_)) | (refine cQV (hac := within_ok _ _ _) (hK := ?_))))); simp (maxSteps := 1000000) (dsimp := false) (implicitDefEqProofs := false) (disch := omega) only [wrap64, go_sem, bt_fold]) | apply_assumption -exfalso -symm)
  all_goals (first | (show endQ _ _ _ _ _ _ _; (repeat (rename (∀ (A : Fr) (H : Hp), AWP _ _ _ _ A H → _) => hK; clear hK)); (repeat (rename (Fr → Hp → Prop) => K; clear K))) | (show Exists _; (repeat (rename (∀ (A : Fr) (H : Hp), AWP _ _ _ _ A H → _) => hK; clear hK)); (repeat (rename (Fr → Hp → Prop) => K; clear K))) | skip)
  refine awp_loop (ι := Nat) (fun k => [(7, .v (.int .i64 (k))), (6, .v (.int .i64 (s.size))), (0, .v (.string (s)))]) (fun k => Hp.emp) (fun k => k ≤ s.size ∧ ∀ j, j < k → isName s j) (fun k => s.size - k) 0 ?_ (Sub.toL (by simp only [go_sem] <;> first | trivial | (simp only [Option.some.injEq, AV.v.injEq, AV.own.injEq, AV.list.injEq, Value.int.injEq, Value.bool.injEq, true_and, and_true]; first | omega | (simp; done)) | (simp; done) | (simp; omega)) (by (repeat' (first | exact Hp.le_emp _ | exact Hp.le_refl _ | refine Hp.le_upd ?_ ?_)); all_goals (first | rfl | (simp only [go_sem]; first | rfl | (refine cellsE ?_ ?_ <;> (simp)) | (simp))))) ?_
  · exact ⟨Nat.zero_le _, fun j h => absurd h (Nat.not_lt_zero _)⟩
  intro k hk
  repeat' (first | refine awp_seqK fun K hK => ?_ | (refine awp_regionK 67600861 rfl ?_; simp only [List.map_cons, List.map_nil]; simp (maxSteps := 1000000) (dsimp := false) (implicitDefEqProofs := false) (disch := omega) only [wrap64, go_sem, bt_fold, wrap_bt]) | (refine awp_regionQK 67600861 (by kernel_rfl) (by kernel_rfl) (by kernel_rfl) ?_; simp only [List.map_cons, List.map_nil]; simp (maxSteps := 1000000) (dsimp := false) (implicitDefEqProofs := false) (disch := omega) only [wrap64, go_sem, bt_fold, wrap_bt]) | refine awp_block ?_ | (refine awp_skip ?_; simp only [go_sem, bt_fold, wrap_bt]) | (refine awp_exit ?_; simp only [go_sem, bt_fold, wrap_bt]) | (refine awp_ret ?_; try simp only [go_sem, bt_fold, wrap_bt]) | (refine awp_condP rfl ?_; try simp only [go_sem, bt_fold, wrap_bt]) | (refine BrP.mk (fun h => ?_) (fun h => ?_) <;> try simp (dsimp := false) (disch := omega) only [wrap64]) | (refine Br.mk (fun h => ?_) (fun h => ?_) <;> try simp (dsimp := false) (disch := omega) only [wrap64]) | refine Ob.mk (by first | omega | (intro _ _; rfl) | trivial | (intros; trivial) | assumption | (intro i hi; have h0 : i = 0 := (by omega); subst h0; first | rfl | trivial) | (intro i hi; have h0 : i = 0 ∨ i = 1 := (by omega); rcases h0 with rfl | rfl <;> rfl) | (intro i hi; have h0 : i = 0 ∨ i = 1 ∨ i = 2 := (by omega); rcases h0 with rfl | rfl | rfl <;> rfl)) ?_ | ((first | ((first | refine atF (f := 138) ?_ | refine atQ (f := 138) ?_); (first | (refine cV (hac := within_ok _ _ _) (hK := ?_)) | (refine cQV (hac := within_ok _ _ _) (hK := ?_))))); simp (maxSteps := 1000000) (dsimp := false) (implicitDefEqProofs := false) (disch := omega) only [wrap64, go_sem, bt_fold, wrap_bt]) | apply_assumption -exfalso -symm)
  all_goals (first | (show endQ _ _ _ _ _ _ _; (repeat (rename (∀ (A : Fr) (H : Hp), AWP _ _ _ _ A H → _) => hK; clear hK)); (repeat (rename (Fr → Hp → Prop) => K; clear K))) | (show Exists _; (repeat (rename (∀ (A : Fr) (H : Hp), AWP _ _ _ _ A H → _) => hK; clear hK)); (repeat (rename (Fr → Hp → Prop) => K; clear K))) | skip)
  · refine awp_loop (ι := Nat) (fun i => [(17, .v (.int .i64 (i))), (16, .v (.int .i64 (k))), (3, .v (.int .i64 (k))), (7, .v (.int .i64 (k))), (6, .v (.int .i64 (s.size))), (0, .v (.string (s)))]) (fun i => Hp.emp) (fun i => i ≤ k ∧ ∀ j, j < i → bt s j ≠ bt s k) (fun i => k - i) 0 ?_ (Sub.toL (by simp only [go_sem] <;> first | trivial | (simp only [Option.some.injEq, AV.v.injEq, AV.own.injEq, AV.list.injEq, Value.int.injEq, Value.bool.injEq, true_and, and_true]; first | omega | (simp; done)) | (simp; done) | (simp; omega)) (by (repeat' (first | exact Hp.le_emp _ | exact Hp.le_refl _ | refine Hp.le_upd ?_ ?_)); all_goals (first | rfl | (simp only [go_sem]; first | rfl | (refine cellsE ?_ ?_ <;> (simp)) | (simp))))) ?_
    · exact ⟨Nat.zero_le _, fun j h => absurd h (Nat.not_lt_zero _)⟩
    intro i hi
    repeat' (first | refine awp_seqK fun K hK => ?_ | (refine awp_regionK 67600861 rfl ?_; simp only [List.map_cons, List.map_nil]; simp (maxSteps := 1000000) (dsimp := false) (implicitDefEqProofs := false) (disch := omega) only [wrap64, go_sem, bt_fold, wrap_bt]) | (refine awp_regionQK 67600861 (by kernel_rfl) (by kernel_rfl) (by kernel_rfl) ?_; simp only [List.map_cons, List.map_nil]; simp (maxSteps := 1000000) (dsimp := false) (implicitDefEqProofs := false) (disch := omega) only [wrap64, go_sem, bt_fold, wrap_bt]) | refine awp_block ?_ | (refine awp_skip ?_; simp only [go_sem, bt_fold, wrap_bt]) | (refine awp_exit ?_; simp only [go_sem, bt_fold, wrap_bt]) | (refine awp_ret ?_; try simp only [go_sem, bt_fold, wrap_bt]) | (refine awp_condP rfl ?_; try simp only [go_sem, bt_fold, wrap_bt]) | (refine BrP.mk (fun h => ?_) (fun h => ?_) <;> try simp (dsimp := false) (disch := omega) only [wrap64]) | (refine Br.mk (fun h => ?_) (fun h => ?_) <;> try simp (dsimp := false) (disch := omega) only [wrap64]) | refine Ob.mk (by first | omega | (intro _ _; rfl) | trivial | (intros; trivial) | assumption | (intro i hi; have h0 : i = 0 := (by omega); subst h0; first | rfl | trivial) | (intro i hi; have h0 : i = 0 ∨ i = 1 := (by omega); rcases h0 with rfl | rfl <;> rfl) | (intro i hi; have h0 : i = 0 ∨ i = 1 ∨ i = 2 := (by omega); rcases h0 with rfl | rfl | rfl <;> rfl)) ?_ | apply_assumption -exfalso -symm)
    all_goals (first | (show endQ _ _ _ _ _ _ _; (repeat (rename (∀ (A : Fr) (H : Hp), AWP _ _ _ _ A H → _) => hK; clear hK)); (repeat (rename (Fr → Hp → Prop) => K; clear K))) | (show Exists _; (repeat (rename (∀ (A : Fr) (H : Hp), AWP _ _ _ _ A H → _) => hK; clear hK)); (repeat (rename (Fr → Hp → Prop) => K; clear K))) | skip)
    · refine end_retB rfl rfl ?_
      simp only [Bool.false_eq_true, false_iff]
      intro h2; exact (h2.2 k (by omega)).2 i (by omega) ‹_›
    · refine ⟨i + 1, ?_, ?_, Sub.toL (by simp only [go_sem] <;> first | trivial | (simp only [Option.some.injEq, AV.v.injEq, AV.own.injEq, AV.list.injEq, Value.int.injEq, Value.bool.injEq, true_and, and_true]; first | omega | (simp; done)) | (simp; done) | (simp; omega)) (by (repeat' (first | exact Hp.le_emp _ | exact Hp.le_refl _ | refine Hp.le_upd ?_ ?_)); all_goals (first | rfl | (simp only [go_sem]; first | rfl | (refine cellsE ?_ ?_ <;> (simp)) | (simp))))⟩
      · refine ⟨by omega, fun j hj => ?_⟩
        by_cases h' : j = i
        · subst h'; assumption
        · exact hi.2 j (by omega)
      · omega
    · refine ⟨k + 1, ?_, ?_, Sub.toL (by simp only [go_sem] <;> first | trivial | (simp only [Option.some.injEq, AV.v.injEq, AV.own.injEq, AV.list.injEq, Value.int.injEq, Value.bool.injEq, true_and, and_true]; first | omega | (simp; done)) | (simp; done) | (simp; omega)) (by (repeat' (first | exact Hp.le_emp _ | exact Hp.le_refl _ | refine Hp.le_upd ?_ ?_)); all_goals (first | rfl | (simp only [go_sem]; first | rfl | (refine cellsE ?_ ?_ <;> (simp)) | (simp))))⟩
      · refine ⟨by omega, fun j hj => ?_⟩
        by_cases h' : j = k
        · subst h'; exact ⟨by omega, fun m hm => hi.2 m (by omega)⟩
        · exact hk.2 j (by omega)
      · omega
  · refine end_retB rfl rfl ?_
    simp only [Bool.false_eq_true, false_iff]
    intro h2; exact ‹¬ (_ ∧ _)› (h2.2 k (by omega)).1
  · refine end_retB rfl rfl ?_
    rw [decide_eq_true_eq]
    exact ⟨fun h => ⟨by omega, fun j hj => hk.2 j (by omega)⟩, fun h => by omega⟩

theorem implIsValidPuzzle_ok (p : Pz) (hs : p.s.size ≤ 140737488355328) : AC Try.prog 159 [pz p] Hp.emp (fun _ => false) (retV (.v (.bool (decide (isPz p))))) := by
  refine ac_of_awp (N := ⟨_, fun _ => false, fun _ _ => rfl⟩) Try.func159 rfl (by kernel_rfl) Try.ntmps159 (by simp) ?_
  simp only [argsFr, List.zipIdx_cons, List.zipIdx_nil, go_sem]
  repeat' (first | refine awp_seqK fun K hK => ?_ | (refine awp_regionK 7 rfl ?_; simp only [List.map_cons, List.map_nil]; simp (maxSteps := 1000000) (dsimp := false) (implicitDefEqProofs := false) (disch := omega) only [wrap64, go_sem]) | (refine awp_regionQK 7 (by kernel_rfl) (by kernel_rfl) (by kernel_rfl) ?_; simp only [List.map_cons, List.map_nil]; simp (maxSteps := 1000000) (dsimp := false) (implicitDefEqProofs := false) (disch := omega) only [wrap64, go_sem]) | refine awp_block ?_ | (refine awp_skip ?_; simp only [go_sem]) | (refine awp_exit ?_; simp only [go_sem]) | (refine awp_ret ?_; try simp only [go_sem]) | (refine awp_condP rfl ?_; try simp only [go_sem]) | (refine BrP.mk (fun h => ?_) (fun h => ?_) <;> try simp (dsimp := false) (disch := omega) only [wrap64]) | (refine Br.mk (fun h => ?_) (fun h => ?_) <;> try simp (dsimp := false) (disch := omega) only [wrap64]) | refine Ob.mk (by first | omega | (intro _ _; rfl) | trivial | (intros; trivial) | assumption | (intro i hi; have h0 : i = 0 := (by omega); subst h0; first | rfl | trivial) | (intro i hi; have h0 : i = 0 ∨ i = 1 := (by omega); rcases h0 with rfl | rfl <;> rfl) | (intro i hi; have h0 : i = 0 ∨ i = 1 ∨ i = 2 := (by omega); rcases h0 with rfl | rfl | rfl <;> rfl)) ?_ | ((first | ((first | refine atF (f := 87) ?_ | refine atQ (f := 87) ?_); (first | (refine cV (hac := implIsGeneratorSet_ok _ _) (hK := ?_)) | (refine cQV (hac := implIsGeneratorSet_ok _ _) (hK := ?_)))) | ((first | refine atF (f := 177) ?_ | refine atQ (f := 177) ?_); (first | (refine cV (hac := isNames_ok _ hs) (hK := ?_)) | (refine cQV (hac := isNames_ok _ hs) (hK := ?_))))); simp (maxSteps := 1000000) (dsimp := false) (implicitDefEqProofs := false) (disch := omega) only [wrap64, go_sem]) | apply_assumption -exfalso -symm)
  all_goals (first | (show endQ _ _ _ _ _ _ _; (repeat (rename (∀ (A : Fr) (H : Hp), AWP _ _ _ _ A H → _) => hK; clear hK)); (repeat (rename (Fr → Hp → Prop) => K; clear K))) | (show Exists _; (repeat (rename (∀ (A : Fr) (H : Hp), AWP _ _ _ _ A H → _) => hK; clear hK)); (repeat (rename (Fr → Hp → Prop) => K; clear K))) | skip)
  all_goals
    refine end_retB rfl rfl ?_
    simp only [decide_eq_true_eq, Bool.false_eq_true, false_iff, isPz]
  · rename_i h1
    exact ⟨fun e => ⟨h1, by have := h.1; omega, by omega, h.2⟩, fun e => by have := e.2.2.1; omega⟩
  · intro e
    refine h ⟨?_, e.2.2.2⟩
    have := e.1.2.1; have := e.2.1; have := e.2.2.1; omega
  · intro e; exact absurd e.1 h

theorem szGo_in : ∀ (xss : List (List Int)) (l : Int), l ≤ 1048576 → ¬ szGo xss l < 0 → ∀ x ∈ xss, x.length ≤ 1048576
  | [], _, _, _, x, hx => by cases hx
  | a :: r, l, hl, h, x, hx => by
    simp only [szGo] at h
    split at h
    · exact absurd (by omega) h
    · rename_i h1
      have h2 : szI a l ≤ 1048576 ∧ a.length ≤ 1048576 := by
        unfold szI at h1 ⊢; split at h1 <;> simp_all <;> omega
      simp only [List.mem_cons] at hx
      rcases hx with rfl | hx
      · exact h2.2
      · exact szGo_in r _ h2.1 h x hx
theorem szP_len {p : Pz} (h : ¬ szP p 1048576 < 0) : p.m.length ≤ 1048576 := by
  unfold szP at h
  split at h
  · omega
  · split at h
    · omega
    · rename_i h1 h2; unfold szII at h2; split at h2 <;> omega
theorem szP_in {p : Pz} (h : ¬ szP p 1048576 < 0) : ∀ j, (p.m.getD j []).length ≤ 1048576 := by
  intro j
  unfold szP at h
  split at h
  · omega
  · split at h
    · omega
    · rename_i h1 h2
      unfold szII at h2
      split at h2
      · omega
      · by_cases hj : j < p.m.length
        · have e : p.m.getD j [] = p.m[j] := by simp [hj]
          rw [e]
          exact szGo_in p.m _ (by omega) h2 _ (List.getElem_mem hj)
        · have e : p.m.getD j [] = [] := by simp [List.getElem?_eq_none (by omega : p.m.length ≤ j)]
          rw [e]; simp

theorem szP_str {p : Pz} (h : ¬ szP p 1048576 < 0) : p.s.size ≤ 1048576 := by
  unfold szP at h
  split at h
  · omega
  · split at h <;> omega
theorem szP_str' {p : Pz} (h : ¬ szP p 1048576 < 0) : p.s.size ≤ 140737488355328 := by have := szP_str h; omega
end Go.Proofs.Ytcfnbahpdlmcpaa
end
section
namespace Go.Proofs.Ytcfnbahpdlmcpaa
open Go.Av
set_option linter.unusedSimpArgs false
set_option linter.unusedVariables false
attribute [local irreducible] AWP CallG Ob Br BrP Go.Av.Sub endQ AOps OpV AC thenA blkA opsVC opVC withA withArgs opsQ opQ CallQ withA2 withArgs2

def isSt (p : Pz) (s : List Int) : Prop := isPz p ∧ (s.length : Int) = p.n ∧ isPerm s
instance (p : Pz) (s : List Int) : Decidable (isSt p s) := by unfold isSt; infer_instance

/- IsSolved -/
theorem equalInts_ok (xs ys : List Int) (hx : xs.length ≤ 1048576) : AC Try.prog 157 [ints xs, ints ys] Hp.emp (fun _ => false) (retV (.v (.bool (decide (xs = ys))))) := by
  refine ac_of_awp (N := ⟨_, fun _ => false, fun _ _ => rfl⟩) Try.func157 rfl (by kernel_rfl) Try.ntmps157 (by simp) ?_
  simp only [argsFr, List.zipIdx_cons, List.zipIdx_nil, go_sem]
  repeat' (first | refine awp_seqK fun K hK => ?_ | (refine awp_regionK 33571891 rfl ?_; simp only [List.map_cons, List.map_nil]; simp (maxSteps := 1000000) (dsimp := false) (implicitDefEqProofs := false) (disch := omega) only [wrap64, go_sem]) | (refine awp_regionQK 33571891 (by kernel_rfl) (by kernel_rfl) (by kernel_rfl) ?_; simp only [List.map_cons, List.map_nil]; simp (maxSteps := 1000000) (dsimp := false) (implicitDefEqProofs := false) (disch := omega) only [wrap64, go_sem]) | refine awp_block ?_ | (refine awp_skip ?_; simp only [go_sem]) | (refine awp_exit ?_; simp only [go_sem]) | (refine awp_ret ?_; try simp only [go_sem]) | (refine awp_condP rfl ?_; try simp only [go_sem]) | (refine BrP.mk (fun h => ?_) (fun h => ?_) <;> try simp (dsimp := false) (disch := omega) only [wrap64]) | (refine Br.mk (fun h => ?_) (fun h => ?_) <;> try simp (dsimp := false) (disch := omega) only [wrap64]) | refine Ob.mk (by first | omega | (intro _ _; rfl) | trivial | (intros; trivial) | assumption | (intro i hi; have h0 : i = 0 := (by omega); subst h0; first | rfl | trivial) | (intro i hi; have h0 : i = 0 ∨ i = 1 := (by omega); rcases h0 with rfl | rfl <;> rfl) | (intro i hi; have h0 : i = 0 ∨ i = 1 ∨ i = 2 := (by omega); rcases h0 with rfl | rfl | rfl <;> rfl)) ?_ | apply_assumption -exfalso -symm)
  all_goals (first | (show endQ _ _ _ _ _ _ _; (repeat (rename (∀ (A : Fr) (H : Hp), AWP _ _ _ _ A H → _) => hK; clear hK)); (repeat (rename (Fr → Hp → Prop) => K; clear K))) | (show Exists _; (repeat (rename (∀ (A : Fr) (H : Hp), AWP _ _ _ _ A H → _) => hK; clear hK)); (repeat (rename (Fr → Hp → Prop) => K; clear K))) | skip)
  · have hl : xs.length = ys.length := by omega
    refine awp_loop (ι := Nat) (fun k => [(5, .v (.int .i64 (k))), (0, .list false 1 (xs).length (cM iv 0 (xs))), (1, .list false 1 (ys).length (cM iv 0 (ys)))]) (fun k => Hp.emp) (fun k => k ≤ xs.length ∧ ∀ j, j < k → xs.getD j 0 = ys.getD j 0) (fun k => xs.length - k) 0 ?_ (Sub.toL (by simp only [go_sem] <;> first | trivial | (simp only [Option.some.injEq, AV.v.injEq, AV.own.injEq, AV.list.injEq, Value.int.injEq, Value.bool.injEq, true_and, and_true]; first | omega | (simp; done)) | (simp; done) | (simp; omega)) (by (repeat' (first | exact Hp.le_emp _ | exact Hp.le_refl _ | refine Hp.le_upd ?_ ?_)); all_goals (first | rfl | (simp only [go_sem]; first | rfl | (refine cellsE ?_ ?_ <;> (simp)) | (simp))))) ?_
    · exact ⟨Nat.zero_le _, fun j h => absurd h (Nat.not_lt_zero _)⟩
    intro k hk
    repeat' (first | refine awp_seqK fun K hK => ?_ | (refine awp_regionK 33571891 rfl ?_; simp only [List.map_cons, List.map_nil]; simp (maxSteps := 1000000) (dsimp := false) (implicitDefEqProofs := false) (disch := omega) only [wrap64, go_sem]) | (refine awp_regionQK 33571891 (by kernel_rfl) (by kernel_rfl) (by kernel_rfl) ?_; simp only [List.map_cons, List.map_nil]; simp (maxSteps := 1000000) (dsimp := false) (implicitDefEqProofs := false) (disch := omega) only [wrap64, go_sem]) | refine awp_block ?_ | (refine awp_skip ?_; simp only [go_sem]) | (refine awp_exit ?_; simp only [go_sem]) | (refine awp_ret ?_; try simp only [go_sem]) | (refine awp_condP rfl ?_; try simp only [go_sem]) | (refine BrP.mk (fun h => ?_) (fun h => ?_) <;> try simp (dsimp := false) (disch := omega) only [wrap64]) | (refine Br.mk (fun h => ?_) (fun h => ?_) <;> try simp (dsimp := false) (disch := omega) only [wrap64]) | refine Ob.mk (by first | omega | (intro _ _; rfl) | trivial | (intros; trivial) | assumption | (intro i hi; have h0 : i = 0 := (by omega); subst h0; first | rfl | trivial) | (intro i hi; have h0 : i = 0 ∨ i = 1 := (by omega); rcases h0 with rfl | rfl <;> rfl) | (intro i hi; have h0 : i = 0 ∨ i = 1 ∨ i = 2 := (by omega); rcases h0 with rfl | rfl | rfl <;> rfl)) ?_ | apply_assumption -exfalso -symm)
    all_goals (first | (show endQ _ _ _ _ _ _ _; (repeat (rename (∀ (A : Fr) (H : Hp), AWP _ _ _ _ A H → _) => hK; clear hK)); (repeat (rename (Fr → Hp → Prop) => K; clear K))) | (show Exists _; (repeat (rename (∀ (A : Fr) (H : Hp), AWP _ _ _ _ A H → _) => hK; clear hK)); (repeat (rename (Fr → Hp → Prop) => K; clear K))) | skip)
    · refine ⟨k + 1, ?_, ?_, Sub.toL (by simp only [go_sem] <;> first | trivial | (simp only [Option.some.injEq, AV.v.injEq, AV.own.injEq, AV.list.injEq, Value.int.injEq, Value.bool.injEq, true_and, and_true]; first | omega | (simp; done)) | (simp; done) | (simp; omega)) (by (repeat' (first | exact Hp.le_emp _ | exact Hp.le_refl _ | refine Hp.le_upd ?_ ?_)); all_goals (first | rfl | (simp only [go_sem]; first | rfl | (refine cellsE ?_ ?_ <;> (simp)) | (simp))))⟩
      · refine ⟨by omega, fun j hj => ?_⟩
        by_cases h' : j = k
        · subst h'; assumption
        · exact hk.2 j (by omega)
      · omega
    · refine end_retB rfl rfl ?_
      simp only [Bool.false_eq_true, false_iff]
      rintro rfl
      exact absurd rfl ‹¬_›
    · refine end_retB rfl rfl ?_
      simp only [true_iff]
      exact eq_of_getD hl fun j hj => hk.2 j (by omega)
  · exact end_retB rfl rfl (by simp; rintro rfl; simp at h)

theorem slicesEqual_ok (xs ys : List Int) (hx : xs.length ≤ 1048576) : AC Try.prog 170 [ints xs, ints ys] Hp.emp (fun _ => false) (retV (.v (.bool (decide (xs = ys))))) := by
  refine ac_of_awp (N := ⟨_, fun _ => false, fun _ _ => rfl⟩) Try.func170 rfl (by kernel_rfl) Try.ntmps170 (by simp) ?_
  simp only [argsFr, List.zipIdx_cons, List.zipIdx_nil, go_sem]
  repeat' (first | refine awp_seqK fun K hK => ?_ | (refine awp_regionK 16806963 rfl ?_; simp only [List.map_cons, List.map_nil]; simp (maxSteps := 1000000) (dsimp := false) (implicitDefEqProofs := false) (disch := omega) only [wrap64, go_sem]) | (refine awp_regionQK 16806963 (by kernel_rfl) (by kernel_rfl) (by kernel_rfl) ?_; simp only [List.map_cons, List.map_nil]; simp (maxSteps := 1000000) (dsimp := false) (implicitDefEqProofs := false) (disch := omega) only [wrap64, go_sem]) | refine awp_block ?_ | (refine awp_skip ?_; simp only [go_sem]) | (refine awp_exit ?_; simp only [go_sem]) | (refine awp_ret ?_; try simp only [go_sem]) | (refine awp_condP rfl ?_; try simp only [go_sem]) | (refine BrP.mk (fun h => ?_) (fun h => ?_) <;> try simp (dsimp := false) (disch := omega) only [wrap64]) | (refine Br.mk (fun h => ?_) (fun h => ?_) <;> try simp (dsimp := false) (disch := omega) only [wrap64]) | refine Ob.mk (by first | omega | (intro _ _; rfl) | trivial | (intros; trivial) | assumption | (intro i hi; have h0 : i = 0 := (by omega); subst h0; first | rfl | trivial) | (intro i hi; have h0 : i = 0 ∨ i = 1 := (by omega); rcases h0 with rfl | rfl <;> rfl) | (intro i hi; have h0 : i = 0 ∨ i = 1 ∨ i = 2 := (by omega); rcases h0 with rfl | rfl | rfl <;> rfl)) ?_ | apply_assumption -exfalso -symm)
  all_goals (first | (show endQ _ _ _ _ _ _ _; (repeat (rename (∀ (A : Fr) (H : Hp), AWP _ _ _ _ A H → _) => hK; clear hK)); (repeat (rename (Fr → Hp → Prop) => K; clear K))) | (show Exists _; (repeat (rename (∀ (A : Fr) (H : Hp), AWP _ _ _ _ A H → _) => hK; clear hK)); (repeat (rename (Fr → Hp → Prop) => K; clear K))) | skip)
  · have hl : xs.length = ys.length := by omega
    refine awp_loop (ι := Nat) (fun k => [(13, .v (.int .i64 (k))), (12, .v (.int .i64 (xs.length))), (0, .list false 1 (xs).length (cM iv 0 (xs))), (1, .list false 1 (ys).length (cM iv 0 (ys)))]) (fun k => Hp.emp) (fun k => k ≤ xs.length ∧ ∀ j, j < k → xs.getD j 0 = ys.getD j 0) (fun k => xs.length - k) 0 ?_ (Sub.toL (by simp only [go_sem] <;> first | trivial | (simp only [Option.some.injEq, AV.v.injEq, AV.own.injEq, AV.list.injEq, Value.int.injEq, Value.bool.injEq, true_and, and_true]; first | omega | (simp; done)) | (simp; done) | (simp; omega)) (by (repeat' (first | exact Hp.le_emp _ | exact Hp.le_refl _ | refine Hp.le_upd ?_ ?_)); all_goals (first | rfl | (simp only [go_sem]; first | rfl | (refine cellsE ?_ ?_ <;> (simp)) | (simp))))) ?_
    · exact ⟨Nat.zero_le _, fun j h => absurd h (Nat.not_lt_zero _)⟩
    intro k hk
    repeat' (first | refine awp_seqK fun K hK => ?_ | (refine awp_regionK 16806963 rfl ?_; simp only [List.map_cons, List.map_nil]; simp (maxSteps := 1000000) (dsimp := false) (implicitDefEqProofs := false) (disch := omega) only [wrap64, go_sem]) | (refine awp_regionQK 16806963 (by kernel_rfl) (by kernel_rfl) (by kernel_rfl) ?_; simp only [List.map_cons, List.map_nil]; simp (maxSteps := 1000000) (dsimp := false) (implicitDefEqProofs := false) (disch := omega) only [wrap64, go_sem]) | refine awp_block ?_ | (refine awp_skip ?_; simp only [go_sem]) | (refine awp_exit ?_; simp only [go_sem]) | (refine awp_ret ?_; try simp only [go_sem]) | (refine awp_condP rfl ?_; try simp only [go_sem]) | (refine BrP.mk (fun h => ?_) (fun h => ?_) <;> try simp (dsimp := false) (disch := omega) only [wrap64]) | (refine Br.mk (fun h => ?_) (fun h => ?_) <;> try simp (dsimp := false) (disch := omega) only [wrap64]) | refine Ob.mk (by first | omega | (intro _ _; rfl) | trivial | (intros; trivial) | assumption | (intro i hi; have h0 : i = 0 := (by omega); subst h0; first | rfl | trivial) | (intro i hi; have h0 : i = 0 ∨ i = 1 := (by omega); rcases h0 with rfl | rfl <;> rfl) | (intro i hi; have h0 : i = 0 ∨ i = 1 ∨ i = 2 := (by omega); rcases h0 with rfl | rfl | rfl <;> rfl)) ?_ | apply_assumption -exfalso -symm)
    all_goals (first | (show endQ _ _ _ _ _ _ _; (repeat (rename (∀ (A : Fr) (H : Hp), AWP _ _ _ _ A H → _) => hK; clear hK)); (repeat (rename (Fr → Hp → Prop) => K; clear K))) | (show Exists _; (repeat (rename (∀ (A : Fr) (H : Hp), AWP _ _ _ _ A H → _) => hK; clear hK)); (repeat (rename (Fr → Hp → Prop) => K; clear K))) | skip)
    · refine ⟨k + 1, ?_, ?_, Sub.toL (by simp only [go_sem] <;> first | trivial | (simp only [Option.some.injEq, AV.v.injEq, AV.own.injEq, AV.list.injEq, Value.int.injEq, Value.bool.injEq, true_and, and_true]; first | omega | (simp; done)) | (simp; done) | (simp; omega)) (by (repeat' (first | exact Hp.le_emp _ | exact Hp.le_refl _ | refine Hp.le_upd ?_ ?_)); all_goals (first | rfl | (simp only [go_sem]; first | rfl | (refine cellsE ?_ ?_ <;> (simp)) | (simp))))⟩
      · refine ⟨by omega, fun j hj => ?_⟩
        by_cases h' : j = k
        · subst h'; assumption
        · exact hk.2 j (by omega)
      · omega
    · refine end_retB rfl rfl ?_
      simp only [Bool.false_eq_true, false_iff]
      rintro rfl
      exact absurd rfl ‹¬_›
    · refine end_retB rfl rfl ?_
      simp only [true_iff]
      exact eq_of_getD hl fun j hj => hk.2 j (by omega)
  · exact end_retB rfl rfl (by simp; rintro rfl; simp at h)

def isSv (p : Pz) (s : List Int) : Prop := isSt p s ∧ s = marks 0 s.length
instance (p : Pz) (s : List Int) : Decidable (isSv p s) := by unfold isSv; infer_instance

/- IsTrackedSet -/
def isTr (n : Int) (l : List Int) : Prop := 1 ≤ l.length ∧ ∀ j, j < l.length → (0 ≤ l.getD j 0 ∧ l.getD j 0 ≤ n - 1) ∧ (0 < j → l.getD (j - 1) 0 < l.getD j 0)
instance (n : Int) (l : List Int) : Decidable (isTr n l) := by unfold isTr; infer_instance
theorem isPz.n {p : Pz} (h : isPz p) : 1 ≤ p.n ∧ p.n ≤ 20 := h.1.1
/- IsPattern -/
def isDL (n : Int) (l : List Int) (m : Nat) : Prop := l.length = m ∧ ∀ j, j < l.length → (0 ≤ l.getD j 0 ∧ l.getD j 0 ≤ n - 1) ∧ l.getD j 0 ∉ l.take j
instance (n : Int) (l : List Int) (m : Nat) : Decidable (isDL n l m) := by unfold isDL; infer_instance

def isPat (p : Pz) (l q : List Int) : Prop := (isPz p ∧ isTr p.n l) ∧ isDL p.n q l.length
instance (p : Pz) (l q : List Int) : Decidable (isPat p l q) := by unfold isPat; infer_instance
theorem isPz.len {p : Pz} (h : isPz p) : p.m.length ≤ 1048576 := by have := h.1.2.1; omega
theorem isPz.in {p : Pz} (h : isPz p) : ∀ j, (p.m.getD j []).length ≤ 1048576 := by
  intro j
  by_cases hj : j < p.m.length
  · have h1 := h.1.2.2 j hj; have h2 := h1.2.1; omega
  · rw [List.getD_eq_getElem?_getD, List.getElem?_eq_none (by omega)]; simp

def isSame (a b : Pz) : Prop := isPz a ∧ isPz b ∧ a.n = b.n ∧ a.s.toList = b.s.toList ∧ a.m = b.m
instance (a b : Pz) : Decidable (isSame a b) := by unfold isSame; infer_instance
end Go.Proofs.Ytcfnbahpdlmcpaa
end
section
namespace Go.Proofs.Ytcfnbahpdlmcpaa
open Go.Av
set_option linter.unusedSimpArgs false
set_option linter.unusedVariables false
attribute [local irreducible] AWP CallG Ob Br BrP Go.Av.Sub endQ AOps OpV AC thenA blkA opsVC opVC withA withArgs opsQ opQ CallQ withA2 withArgs2

/- rows of rows of our own -/
theorem PR_zero (d n : Nat) (xss : List (List Int)) : Hp.le (PR d xss 0 n) (Hp.emp.upd d (.cells n (zF [.slice none 0 0]))) := by
  intro g B hB
  unfold PR at hB
  split at hB
  · rename_i e
    subst e
    simp only [Option.some.injEq] at hB
    subst hB
    simp only [Hp.upd, if_true, Option.some.injEq]
    congr 1
    funext i
    simp [zF, mixF, Nat.mod_one]
  · simp at hB

theorem toInt64SS_own (xss : List (List Int)) (hx : xss.length ≤ 1048576) (hb : ∀ j, (xss.getD j []).length ≤ 1048576) (d : Nat) (hd : d < 2097152) : AC Try.prog 158 [intss xss] Hp.emp (fun _ => false) (retII d xss) := by
  refine AC.famI (d0 := 7) ?_ d (by rw [FB_eq]; omega) hd (by rw [FB_eq]; omega) (fun _ => rfl)
  refine ac_of_awp (N := ⟨_, fun _ => false, fun _ _ => rfl⟩) Try.func158 rfl (by kernel_rfl) Try.ntmps158 (by simp) ?_
  simp only [argsFr, List.zipIdx_cons, List.zipIdx_nil, go_sem]
  repeat' (first | refine awp_seqK fun K hK => ?_ | (refine awp_regionK 2077 rfl ?_; simp only [List.map_cons, List.map_nil]; simp (maxSteps := 1000000) (dsimp := false) (implicitDefEqProofs := false) (disch := omega) only [wrap64, go_sem]) | (refine awp_regionQK 2077 (by kernel_rfl) (by kernel_rfl) (by kernel_rfl) ?_; simp only [List.map_cons, List.map_nil]; simp (maxSteps := 1000000) (dsimp := false) (implicitDefEqProofs := false) (disch := omega) only [wrap64, go_sem]) | refine awp_block ?_ | (refine awp_skip ?_; simp only [go_sem]) | (refine awp_exit ?_; simp only [go_sem]) | (refine awp_ret ?_; try simp only [go_sem]) | (refine awp_condP rfl ?_; try simp only [go_sem]) | (refine BrP.mk (fun h => ?_) (fun h => ?_) <;> try simp (dsimp := false) (disch := omega) only [wrap64]) | (refine Br.mk (fun h => ?_) (fun h => ?_) <;> try simp (dsimp := false) (disch := omega) only [wrap64]) | refine Ob.mk (by first | omega | (intro _ _; rfl) | trivial | (intros; trivial) | assumption | (intro i hi; have h0 : i = 0 := (by omega); subst h0; first | rfl | trivial) | (intro i hi; have h0 : i = 0 ∨ i = 1 := (by omega); rcases h0 with rfl | rfl <;> rfl) | (intro i hi; have h0 : i = 0 ∨ i = 1 ∨ i = 2 := (by omega); rcases h0 with rfl | rfl | rfl <;> rfl)) ?_ | apply_assumption -exfalso -symm)
  all_goals (first | (show endQ _ _ _ _ _ _ _; (repeat (rename (∀ (A : Fr) (H : Hp), AWP _ _ _ _ A H → _) => hK; clear hK)); (repeat (rename (Fr → Hp → Prop) => K; clear K))) | (show Exists _; (repeat (rename (∀ (A : Fr) (H : Hp), AWP _ _ _ _ A H → _) => hK; clear hK)); (repeat (rename (Fr → Hp → Prop) => K; clear K))) | skip)
  refine awp_loop (ι := Nat) (fun k => [(4, .v (.int .i64 (k))), (3, .own 7 0 1 xss.length), (0, .list false 1 (xss).length (cM ints [] (xss)))]) (fun k => PR 7 xss k xss.length) (fun k => k ≤ xss.length) (fun k => xss.length - k) 0 (Nat.zero_le _) (Sub.toL (by simp only [go_sem]; trivial) (PR_zero _ _ _)) ?_
  intro k hk
  have hps : ∀ n, (PR 7 xss n xss.length).scrub (· == 20) = PR 7 xss n xss.length := fun n => PR_scrub (by omega)
  repeat' (first | refine awp_seqK fun K hK => ?_ | (refine awp_regionK 2077 rfl ?_; simp only [List.map_cons, List.map_nil]; simp (maxSteps := 1000000) (dsimp := false) (implicitDefEqProofs := false) (disch := omega) only [wrap64, go_sem, hps, PR_self]) | (refine awp_regionQK 2077 (by kernel_rfl) (by kernel_rfl) (by kernel_rfl) ?_; simp only [List.map_cons, List.map_nil]; simp (maxSteps := 1000000) (dsimp := false) (implicitDefEqProofs := false) (disch := omega) only [wrap64, go_sem, hps, PR_self]) | refine awp_block ?_ | (refine awp_skip ?_; simp only [go_sem, hps, PR_self]) | (refine awp_exit ?_; simp only [go_sem, hps, PR_self]) | (refine awp_ret ?_; try simp only [go_sem, hps, PR_self]) | (refine awp_condP rfl ?_; try simp only [go_sem, hps, PR_self]) | (refine BrP.mk (fun h => ?_) (fun h => ?_) <;> try simp (dsimp := false) (disch := omega) only [wrap64]) | (refine Br.mk (fun h => ?_) (fun h => ?_) <;> try simp (dsimp := false) (disch := omega) only [wrap64]) | refine Ob.mk (by first | omega | (intro _ _; rfl) | trivial | (intros; trivial) | assumption | (intro i hi; have h0 : i = 0 := (by omega); subst h0; first | rfl | trivial) | (intro i hi; have h0 : i = 0 ∨ i = 1 := (by omega); rcases h0 with rfl | rfl <;> rfl) | (intro i hi; have h0 : i = 0 ∨ i = 1 ∨ i = 2 := (by omega); rcases h0 with rfl | rfl | rfl <;> rfl)) ?_ | ((first | ((first | refine atF (f := 48) ?_ | refine atQ (f := 48) ?_); (first | (refine cI (hac := toInt64S_ok _ (hb _) 20) (hK := ?_)) | (refine cQI (hac := toInt64S_ok _ (hb _) 20) (hK := ?_))))); simp (maxSteps := 1000000) (dsimp := false) (implicitDefEqProofs := false) (disch := omega) only [wrap64, go_sem, hps, PR_self]) | apply_assumption -exfalso -symm)
  all_goals (first | (show endQ _ _ _ _ _ _ _; (repeat (rename (∀ (A : Fr) (H : Hp), AWP _ _ _ _ A H → _) => hK; clear hK)); (repeat (rename (Fr → Hp → Prop) => K; clear K))) | (show Exists _; (repeat (rename (∀ (A : Fr) (H : Hp), AWP _ _ _ _ A H → _) => hK; clear hK)); (repeat (rename (Fr → Hp → Prop) => K; clear K))) | skip)
  · refine ⟨k + 1, by omega, by omega, ?_⟩
    rw [← Hp.emp_add 7 (k + 1) xss.length xss]
    exact Sub.absorb (d := 7) (e := 20) (k := k) (n := xss.length) (xss := xss) (H' := Hp.emp) (by omega) (by omega) (by omega) (by omega) (by omega) rfl (by first | rfl | (simp (disch := omega) only [Hp.upd_app, add_lit, add_self, PR_self, PR_lit, Nat.reduceEqDiff, ↓reduceIte]; first | done | rfl)) (fun i hi => by simp [setF, apF]; try omega) (by first | rfl | (simp (disch := omega) only [Hp.upd_app, add_lit, add_self, PR_self, PR_lit, Nat.reduceEqDiff, ↓reduceIte]; first | done | rfl)) (fun i hi => by have hge := sub_ge 7 i; rw [FB_eq] at hge; simp (disch := omega) only [Hp.upd_app, if_neg]; first | exact PR_sub (by rw [FB_eq]; omega) (by omega) (by rw [FB_eq]; omega) | exact add_sub (by rw [FB_eq]; omega) (by omega) (by rw [FB_eq]; omega)) (by simp only [go_sem] <;> first | trivial | (simp only [Option.some.injEq, AV.v.injEq, AV.own.injEq, AV.list.injEq, Value.int.injEq, Value.bool.injEq, true_and, and_true]; first | omega | (simp; done)) | (simp; done) | (simp; omega)) (by simp only [Fr.low, AV.low, and_true, true_and]; first | done | omega | trivial) (fun g B hB => by simp [Hp.emp] at hB)
  · have e : k = xss.length := by omega
    subst e
    exact end_retII rfl rfl rfl (Hp.le_refl _)

theorem toPuzzle_own (p : Pz) (hx : p.m.length ≤ 1048576) (hb : ∀ j, (p.m.getD j []).length ≤ 1048576) (d : Nat) (hd : d < 2097152) : AC Try.prog 47 [pz p] Hp.emp (fun _ => false) (retR d (pzo p d) p.m) := by
  refine AC.famR (d0 := 700) (a := pzo p) ?_ d (by omega) hd (by omega) (fun ρ => by simp only [List.map_cons, List.map_nil, pz_ren]) (fun ρ => pzo_ren p 700 ρ)
  refine ac_of_awp (N := ⟨_, fun _ => false, fun _ _ => rfl⟩) Try.func47 rfl (by kernel_rfl) Try.ntmps47 (by simp) ?_
  simp only [argsFr, List.zipIdx_cons, List.zipIdx_nil, go_sem]
  repeat' (first | refine awp_seqK fun K hK => ?_ | (refine awp_regionK 15 rfl ?_; simp only [List.map_cons, List.map_nil]; simp (maxSteps := 1000000) (dsimp := false) (implicitDefEqProofs := false) (disch := omega) only [wrap64, go_sem]) | (refine awp_regionQK 15 (by kernel_rfl) (by kernel_rfl) (by kernel_rfl) ?_; simp only [List.map_cons, List.map_nil]; simp (maxSteps := 1000000) (dsimp := false) (implicitDefEqProofs := false) (disch := omega) only [wrap64, go_sem]) | refine awp_block ?_ | (refine awp_skip ?_; simp only [go_sem]) | (refine awp_exit ?_; simp only [go_sem]) | (refine awp_ret ?_; try simp only [go_sem]) | (refine awp_condP rfl ?_; try simp only [go_sem]) | (refine BrP.mk (fun h => ?_) (fun h => ?_) <;> try simp (dsimp := false) (disch := omega) only [wrap64]) | (refine Br.mk (fun h => ?_) (fun h => ?_) <;> try simp (dsimp := false) (disch := omega) only [wrap64]) | refine Ob.mk (by first | omega | (intro _ _; rfl) | trivial | (intros; trivial) | assumption | (intro i hi; have h0 : i = 0 := (by omega); subst h0; first | rfl | trivial) | (intro i hi; have h0 : i = 0 ∨ i = 1 := (by omega); rcases h0 with rfl | rfl <;> rfl) | (intro i hi; have h0 : i = 0 ∨ i = 1 ∨ i = 2 := (by omega); rcases h0 with rfl | rfl | rfl <;> rfl)) ?_ | ((first | (refine callII (by (repeat' (first | exact FitsL.nil | exact Fits.refl _ | exact fits_I rfl trivial rfl rfl | exact fits_P rfl trivial rfl (by decide) | exact fits_T (by omega) (by omega) | exact fits_ref1 rfl trivial (by decide) trivial | exact FitsL.refl _ | refine fits_clo1 ?_ | refine FitsL.cons ?_ ?_ | refine Fits.clo (fun i _ => ?_) | exact fits_N rfl trivial | exact fits_I (by simp (disch := omega) only [go_sem, add_lit, Nat.reduceEqDiff, ↓reduceIte]) trivial rfl rfl | exact fits_pz (by (repeat' (first | exact HasRR.base (by omega) (by first | omega | assumption | (have := szP_len (by assumption); omega)) | exact HasRR.bare (by omega) (by first | omega | assumption) | refine HasRR.upd (by decide) (by decide) ?_ | refine HasRR.add (by decide) (by decide) (by first | omega | (have := szP_len (by assumption); omega)) (by decide) ?_)); first | done | fail) trivial (fun _ => trivial) | exact fits_RR (by (repeat' (first | exact HasRR.base (by omega) (by first | omega | assumption | (have := szP_len (by assumption); omega)) | exact HasRR.bare (by omega) (by first | omega | assumption) | refine HasRR.upd (by decide) (by decide) ?_ | refine HasRR.add (by decide) (by decide) (by first | omega | (have := szP_len (by assumption); omega)) (by decide) ?_)); first | done | fail) trivial (fun _ => trivial) rfl)); first | done | fail) (toInt64SS_own p.m hx hb 700 (by omega)) (by omega) (by omega) (fun _ _ => rfl) ?_)); simp (maxSteps := 1000000) (dsimp := false) (implicitDefEqProofs := false) (disch := omega) only [wrap64, go_sem]) | apply_assumption -exfalso -symm)
  all_goals (first | (show endQ _ _ _ _ _ _ _; (repeat (rename (∀ (A : Fr) (H : Hp), AWP _ _ _ _ A H → _) => hK; clear hK)); (repeat (rename (Fr → Hp → Prop) => K; clear K))) | (show Exists _; (repeat (rename (∀ (A : Fr) (H : Hp), AWP _ _ _ _ A H → _) => hK; clear hK)); (repeat (rename (Fr → Hp → Prop) => K; clear K))) | skip)
  refine end_retRC rfl rfl (by simp only [go_sem]; rfl) rfl (fun i hi => ?_) (HasRR.le ?_)
  · have h0 : i = 0 ∨ i = 1 ∨ i = 2 := by omega
    rcases h0 with rfl | rfl | rfl <;> rfl
  · exact HasRR.upd (by decide) (by decide) (HasRR.upd (by decide) (by decide) (HasRR.upd (by decide) (by decide) (HasRR.base (by omega) (by omega))))

/- marks -/
def tot (xss : List (List Int)) : Nat := (xss.map List.length).sum
theorem tot_snoc (xss : List (List Int)) (i : Nat) (h : i < xss.length) : tot (xss.take (i + 1)) = tot (xss.take i) + (xss.getD i []).length := by
  have e : xss.getD i [] = xss[i] := by simp [h]
  rw [List.take_succ_eq_append_getElem h, tot, tot, List.map_append, List.sum_append, e]
  simp
theorem tot_le (xss : List (List Int)) (i : Nat) : tot (xss.take i) ≤ tot xss := by
  induction xss generalizing i with
  | nil => simp [tot]
  | cons a r ih =>
    cases i with
    | zero => simp [tot]
    | succ i => have := ih i; simp only [tot, List.take_succ_cons, List.map_cons, List.sum_cons] at this ⊢; omega
def mkR : Nat → List (List Int) → List (List Int)
  | _, [] => []
  | k, x :: r => marks k x.length :: mkR (k + x.length) r
theorem mkR_length : ∀ (k : Nat) (xss : List (List Int)), (mkR k xss).length = xss.length
  | _, [] => rfl
  | k, x :: r => by simp [mkR, mkR_length]
theorem mkR_snoc : ∀ (k : Nat) (xss : List (List Int)) (x : List Int), mkR k (xss ++ [x]) = mkR k xss ++ [marks (k + tot xss) x.length]
  | k, [], x => by simp [mkR, tot]
  | k, y :: r, x => by
    have := mkR_snoc (k + y.length) r x
    simp only [List.cons_append, mkR, this, tot, List.map_cons, List.sum_cons, Nat.add_assoc]
/-- The rows once i of them are marked. -/
def mkI (k : Nat) (xss : List (List Int)) (i : Nat) : List (List Int) := mkR k (xss.take i) ++ xss.drop i
theorem mkI_length (k : Nat) (xss : List (List Int)) (i : Nat) : (mkI k xss i).length = xss.length := by simp [mkI, mkR_length]; omega
theorem mkI_get (k : Nat) (xss : List (List Int)) (i : Nat) (h : i < xss.length) : (mkI k xss i).getD i [] = xss.getD i [] := by
  have hl : (mkR k (xss.take i)).length = i := by rw [mkR_length]; simp; omega
  rw [mkI, List.getD_eq_getElem?_getD, List.getElem?_append_right (by omega), hl, Nat.sub_self, List.getElem?_drop, Nat.add_zero, List.getD_eq_getElem?_getD]
theorem mkI_step (k : Nat) (xss : List (List Int)) (i : Nat) (h : i < xss.length) : (mkI k xss i).set i (marks (k + tot (xss.take i)) (xss.getD i []).length) = mkI k xss (i + 1) := by
  have hl : (mkR k (xss.take i)).length = i := by rw [mkR_length]; simp; omega
  have e : xss.getD i [] = xss[i] := by simp [h]
  rw [mkI, mkI, List.set_append_right _ _ (by omega), hl, Nat.sub_self, List.drop_eq_getElem_cons h, List.set_cons_zero, List.take_succ_eq_append_getElem h, mkR_snoc, e]
  simp
theorem mkI_all (k : Nat) (xss : List (List Int)) : mkI k xss xss.length = mkR k xss := by simp [mkI]

theorem markInt64SS_ok (xss : List (List Int)) (k : Nat) (hx : xss.length ≤ 2097152) (hy : (mkR k xss).length ≤ 2097152) (hb : ∀ j, (xss.getD j []).length ≤ 1048576) (hk : k + tot xss ≤ 1099511627776) (h : Nat) (hh : h < 2097152) :
    AC Try.prog 163 [.own h 0 1 xss.length, .v (.int .i64 (k))] (RR h xss) (famB h) (postMM h (.v (.int .i64 (((k + tot xss : Nat) : Int)))) (mkR k xss)) := by
  have hx' : xss.length ≤ FB := by rw [FB_eq]; omega
  refine AC.famM (args := fun h => [.own h 0 1 xss.length, .v (.int .i64 (k))]) (h0 := 1000000) ?_ h ?_ ?_ ?_ ?_ ?_ ?_
  rotate_left
  · omega
  · assumption
  · assumption
  · assumption
  · intro ρ; simp only [List.map_cons, List.map_nil, AV.ren, pzo_ren]; try rfl
  · intro ρ; rfl
  refine ac_of_awp (N := ⟨_, famB 1000000, fun h hh => famB_low (Nat.lt_of_lt_of_le hh (by rw [FB_eq]; decide)) (Nat.ne_of_lt (Nat.lt_of_lt_of_le hh (by decide)))⟩) Try.func163 rfl (by kernel_rfl) Try.ntmps163 (by simp) ?_
  simp only [argsFr, List.zipIdx_cons, List.zipIdx_nil, go_sem]
  repeat' (first | refine awp_seqK fun K hK => ?_ | (refine awp_regionK 563 rfl ?_; simp only [List.map_cons, List.map_nil]; simp (maxSteps := 1000000) (dsimp := false) (implicitDefEqProofs := false) (disch := omega) only [wrap64, go_sem]) | (refine awp_regionQK 563 (by kernel_rfl) (by kernel_rfl) (by kernel_rfl) ?_; simp only [List.map_cons, List.map_nil]; simp (maxSteps := 1000000) (dsimp := false) (implicitDefEqProofs := false) (disch := omega) only [wrap64, go_sem]) | refine awp_block ?_ | (refine awp_skip ?_; simp only [go_sem]) | (refine awp_exit ?_; simp only [go_sem]) | (refine awp_ret ?_; try simp only [go_sem]) | (refine awp_condP rfl ?_; try simp only [go_sem]) | (refine BrP.mk (fun h => ?_) (fun h => ?_) <;> try simp (dsimp := false) (disch := omega) only [wrap64]) | (refine Br.mk (fun h => ?_) (fun h => ?_) <;> try simp (dsimp := false) (disch := omega) only [wrap64]) | refine Ob.mk (by first | omega | (intro _ _; rfl) | trivial | (intros; trivial) | assumption | (intro i hi; have h0 : i = 0 := (by omega); subst h0; first | rfl | trivial) | (intro i hi; have h0 : i = 0 ∨ i = 1 := (by omega); rcases h0 with rfl | rfl <;> rfl) | (intro i hi; have h0 : i = 0 ∨ i = 1 ∨ i = 2 := (by omega); rcases h0 with rfl | rfl | rfl <;> rfl)) ?_ | apply_assumption -exfalso -symm)
  all_goals (first | (show endQ _ _ _ _ _ _ _; (repeat (rename (∀ (A : Fr) (H : Hp), AWP _ _ _ _ A H → _) => hK; clear hK)); (repeat (rename (Fr → Hp → Prop) => K; clear K))) | (show Exists _; (repeat (rename (∀ (A : Fr) (H : Hp), AWP _ _ _ _ A H → _) => hK; clear hK)); (repeat (rename (Fr → Hp → Prop) => K; clear K))) | skip)
  have hI : ∀ i, (mkI k xss i).length = xss.length := mkI_length k xss
  have h0 : mkI k xss 0 = xss := by simp [mkI, mkR]
  refine awp_loop (ι := Nat) (fun i => [(5, .v (.int .i64 (i))), (0, .own 1000000 0 1 xss.length), (1, .v (.int .i64 ((k + tot (xss.take i) : Nat))))]) (fun i => RR 1000000 (mkI k xss i)) (fun i => i ≤ xss.length) (fun i => xss.length - i) 0 (Nat.zero_le _) (Sub.toL (by simp only [go_sem] <;> first | trivial | (simp only [Option.some.injEq, AV.v.injEq, AV.own.injEq, AV.list.injEq, Value.int.injEq, Value.bool.injEq, true_and, and_true]; first | omega | (simp [tot]; done)) | (simp [tot]; done) | (simp [tot]; omega)) (by rw [h0]; exact Hp.le_refl _)) ?_
  intro i hi
  have hmix : i < xss.length → mixF 1000000 (mkI k xss i) xss.length i = .own (sub 1000000 i) 0 1 (xss.getD i []).length := fun hlt => by rw [mixF_lt hlt, mkI_get k xss i hlt]
  have hsub : i < xss.length → (RR 1000000 (mkI k xss i)) (sub 1000000 i) = some (.cells (xss.getD i []).length (cM iv 0 (xss.getD i []))) := fun hlt => by
    have := PR_sub (d := 1000000) (xss := mkI k xss i) (n := (mkI k xss i).length) (k := (mkI k xss i).length) (by rw [FB_eq]; omega) (by rw [hI]; exact hlt) (by rw [hI]; exact hx')
    rw [mkI_get k xss i hlt] at this
    exact this
  have ht := tot_le xss i
  repeat' (first | refine awp_seqK fun K hK => ?_ | (refine awp_regionK 563 rfl ?_; simp only [List.map_cons, List.map_nil]; simp (maxSteps := 1000000) (dsimp := false) (implicitDefEqProofs := false) (disch := omega) only [wrap64, go_sem, hmix, PR_self, hI]) | (refine awp_regionQK 563 (by kernel_rfl) (by kernel_rfl) (by kernel_rfl) ?_; simp only [List.map_cons, List.map_nil]; simp (maxSteps := 1000000) (dsimp := false) (implicitDefEqProofs := false) (disch := omega) only [wrap64, go_sem, hmix, PR_self, hI]) | refine awp_block ?_ | (refine awp_skip ?_; simp only [go_sem, hmix, PR_self, hI]) | (refine awp_exit ?_; simp only [go_sem, hmix, PR_self, hI]) | (refine awp_ret ?_; try simp only [go_sem, hmix, PR_self, hI]) | (refine awp_condP rfl ?_; try simp only [go_sem, hmix, PR_self, hI]) | (refine BrP.mk (fun h => ?_) (fun h => ?_) <;> try simp (dsimp := false) (disch := omega) only [wrap64]) | (refine Br.mk (fun h => ?_) (fun h => ?_) <;> try simp (dsimp := false) (disch := omega) only [wrap64]) | refine Ob.mk (by first | omega | (intro _ _; rfl) | trivial | (intros; trivial) | assumption | (intro i hi; have h0 : i = 0 := (by omega); subst h0; first | rfl | trivial) | (intro i hi; have h0 : i = 0 ∨ i = 1 := (by omega); rcases h0 with rfl | rfl <;> rfl) | (intro i hi; have h0 : i = 0 ∨ i = 1 ∨ i = 2 := (by omega); rcases h0 with rfl | rfl | rfl <;> rfl)) ?_ | ((first | (refine callM (hsub (by omega)) (markInt64S_ok (xss.getD i []) (k + tot (xss.take i)) (hb i) (by omega) (sub 1000000 i)) (fun _ => rfl) (fun _ => rfl) ?_)); simp (maxSteps := 1000000) (dsimp := false) (implicitDefEqProofs := false) (disch := omega) only [wrap64, go_sem, hmix, PR_self, hI]) | apply_assumption -exfalso -symm)
  all_goals (first | (show endQ _ _ _ _ _ _ _; (repeat (rename (∀ (A : Fr) (H : Hp), AWP _ _ _ _ A H → _) => hK; clear hK)); (repeat (rename (Fr → Hp → Prop) => K; clear K))) | (show Exists _; (repeat (rename (∀ (A : Fr) (H : Hp), AWP _ _ _ _ A H → _) => hK; clear hK)); (repeat (rename (Fr → Hp → Prop) => K; clear K))) | skip)
  · have hlt : i < xss.length := by omega
    have ht3 := tot_snoc xss i hlt
    refine ⟨i + 1, by omega, by omega, Sub.toL (by simp only [go_sem] <;> first | trivial | (simp only [Option.some.injEq, AV.v.injEq, AV.own.injEq, AV.list.injEq, Value.int.injEq, Value.bool.injEq, true_and, and_true]; first | omega | (simp [ht3, Nat.add_assoc]; done)) | (simp [ht3, Nat.add_assoc]; done) | (simp [ht3, Nat.add_assoc]; omega)) ?_⟩
    have := RR_upd (d := 1000000) (i := i) (n := (xss.getD i []).length) (xss := mkI k xss i) (ys := marks (k + tot (xss.take i)) (xss.getD i []).length) (by omega) (by rw [hI]; exact hlt) (by rw [hI]; omega) (by rw [marks_length]) (by rw [marks_length, mkI_get k xss i hlt])
    rw [mkI_step k xss i hlt] at this
    rw [← this]
    exact Hp.le_refl _
  · have e : i = xss.length := by omega
    subst e
    rw [mkI_all]
    refine end_MM rfl rfl (Hp.le_refl _) ?_
    rw [List.take_length]

theorem szGo_tot : ∀ (xss : List (List Int)) (l : Int), 0 ≤ l → ¬ szGo xss l < 0 → (tot xss : Int) ≤ l
  | [], l, h0, _ => by simpa [tot] using h0
  | a :: r, l, h0, h => by
    simp only [szGo] at h
    split at h
    · exact absurd (by omega) h
    · rename_i h1
      have h2 : szI a l = l - a.length := by
        unfold szI at h1 ⊢
        split
        · rename_i h2; rw [if_pos h2] at h1; omega
        · rfl
      have h3 := szGo_tot r (szI a l) (by omega) h
      have h4 : tot (a :: r) = a.length + tot r := by simp [tot]
      omega
theorem szP_tot {p : Pz} (h : ¬ szP p 1048576 < 0) : tot p.m ≤ 1048576 := by
  unfold szP at h
  split at h
  · omega
  · split at h
    · omega
    · rename_i h1 h2
      unfold szII at h2
      split at h2
      · omega
      · have := szGo_tot p.m _ (by omega) h2
        omega

theorem markPuzzle_ok (p : Pz) (k : Nat) (hx : p.m.length ≤ 2097152) (hy : (mkR k p.m).length ≤ 2097152) (hb : ∀ j, (p.m.getD j []).length ≤ 1048576) (hk : k + tot p.m ≤ 1099511627776) (h : Nat) (hh : h < 2097152) :
    AC Try.prog 52 [pzo p h, .v (.int .i64 (k))] (RR h p.m) (famB h) (postMM h (.v (.int .i64 (((k + tot p.m : Nat) : Int)))) (mkR k p.m)) := by
  refine AC.famM (args := fun h => [pzo p h, .v (.int .i64 (k))]) (h0 := 1000000) ?_ h ?_ ?_ ?_ ?_ ?_ ?_
  rotate_left
  · omega
  · assumption
  · assumption
  · assumption
  · intro ρ; simp only [List.map_cons, List.map_nil, AV.ren, pzo_ren]; try rfl
  · intro ρ; rfl
  refine ac_of_awp (N := ⟨_, famB 1000000, fun h hh => famB_low (Nat.lt_of_lt_of_le hh (by rw [FB_eq]; decide)) (Nat.ne_of_lt (Nat.lt_of_lt_of_le hh (by decide)))⟩) Try.func52 rfl (by kernel_rfl) Try.ntmps52 (by simp) ?_
  simp only [argsFr, List.zipIdx_cons, List.zipIdx_nil, go_sem]
  repeat' (first | refine awp_seqK fun K hK => ?_ | (refine awp_regionK 23 rfl ?_; simp only [List.map_cons, List.map_nil]; simp (maxSteps := 1000000) (dsimp := false) (implicitDefEqProofs := false) (disch := omega) only [wrap64, go_sem]) | (refine awp_regionQK 23 (by kernel_rfl) (by kernel_rfl) (by kernel_rfl) ?_; simp only [List.map_cons, List.map_nil]; simp (maxSteps := 1000000) (dsimp := false) (implicitDefEqProofs := false) (disch := omega) only [wrap64, go_sem]) | refine awp_block ?_ | (refine awp_skip ?_; simp only [go_sem]) | (refine awp_exit ?_; simp only [go_sem]) | (refine awp_ret ?_; try simp only [go_sem]) | (refine awp_condP rfl ?_; try simp only [go_sem]) | (refine BrP.mk (fun h => ?_) (fun h => ?_) <;> try simp (dsimp := false) (disch := omega) only [wrap64]) | (refine Br.mk (fun h => ?_) (fun h => ?_) <;> try simp (dsimp := false) (disch := omega) only [wrap64]) | refine Ob.mk (by first | omega | (intro _ _; rfl) | trivial | (intros; trivial) | assumption | (intro i hi; have h0 : i = 0 := (by omega); subst h0; first | rfl | trivial) | (intro i hi; have h0 : i = 0 ∨ i = 1 := (by omega); rcases h0 with rfl | rfl <;> rfl) | (intro i hi; have h0 : i = 0 ∨ i = 1 ∨ i = 2 := (by omega); rcases h0 with rfl | rfl | rfl <;> rfl)) ?_ | ((first | (refine callMM (HasRR.upd (by decide) (by decide) (HasRR.bare (by omega) hx)) (markInt64SS_ok p.m k hx hy hb hk 1000000 (by omega)) (by rw [mkR_length]) (by omega) hx (fun _ => rfl) ?_)); simp (maxSteps := 1000000) (dsimp := false) (implicitDefEqProofs := false) (disch := omega) only [wrap64, go_sem]) | apply_assumption -exfalso -symm)
  all_goals (first | (show endQ _ _ _ _ _ _ _; (repeat (rename (∀ (A : Fr) (H : Hp), AWP _ _ _ _ A H → _) => hK; clear hK)); (repeat (rename (Fr → Hp → Prop) => K; clear K))) | (show Exists _; (repeat (rename (∀ (A : Fr) (H : Hp), AWP _ _ _ _ A H → _) => hK; clear hK)); (repeat (rename (Fr → Hp → Prop) => K; clear K))) | skip)
  refine end_MM rfl rfl (HasRR.le (HasRR.base (by omega) (by omega))) rfl

theorem held_marks (n k : Nat) (hn : n ≤ 1048576) (hk : k ≤ 1099511627776) : AC Try.prog 54 [.list false 1 n (cM iv 0 (marks k n)), .v (.int .i64 (k))] Hp.emp (fun _ => false) (retV (.v (.int .i64 (((k + n : Nat) : Int))))) := by
  have := heldInt64S_ok (marks k n) k (by rw [marks_length]; exact hn) hk
  unfold ints at this
  rw [marks_length] at this
  simpa using this

end Go.Proofs.Ytcfnbahpdlmcpaa
end
