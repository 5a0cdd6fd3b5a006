import Derived.Test.YtphpegemhnodcaaV16
import Derived.Test.YtphpegemhnodcaaV4
namespace Go.Proofs.Ytphpegemhnodcaa
open Go.Av
set_option linter.unusedSimpArgs false
set_option linter.unusedVariables false
attribute [local irreducible] AWP CallG Ob Br BrP Go.Av.Sub endQ AOps OpV AC thenA blkA opsVC opVC withA withArgs opsQ opQ CallQ withA2 withArgs2

theorem pwP_len (names s : ByteArray) : (pwP names s).1.length ≤ 1048576 := by
  unfold pwP
  split
  · unfold expaP
    split
    · exact Nat.le_trans (exP_len _ _) (by decide)
    · exact Nat.zero_le _
  · exact Nat.zero_le _
set_option maxHeartbeats 8000000 in
theorem lawParseWord_ok (names : ByteArray) (s : ByteArray) (hl_names : names.size ≤ 9223372036854775807) (hl_s : s.size ≤ 9223372036854775807) : AC Try.prog 5 [.v (.string names), .v (.string s)] Hp.emp (fun _ => false) (retV (.v (.bool (true)))) := by
  have hlp := pwP_len names s
  refine ac_of_awp (N := ⟨_, fun _ => false, fun _ _ => rfl⟩) Try.func5 rfl (by kernel_rfl) Try.ntmps5 (by simp) ?_
  simp only [argsFr, List.zipIdx_cons, List.zipIdx_nil, go_sem]
  repeat' (first | refine awp_seqK fun K hK => ?_ | (refine awp_regionK 10662219341791272148979 rfl ?_; simp only [List.map_cons, List.map_nil]; simp (maxSteps := 1000000) (dsimp := false) (implicitDefEqProofs := false) (disch := omega) only [wrap64, go_sem]) | (refine awp_regionQK 10662219341791272148979 (by kernel_rfl) (by kernel_rfl) (by kernel_rfl) ?_; simp only [List.map_cons, List.map_nil]; simp (maxSteps := 1000000) (dsimp := false) (implicitDefEqProofs := false) (disch := omega) only [wrap64, go_sem]) | refine awp_block ?_ | (refine awp_skip ?_; simp only [go_sem]) | (refine awp_exit ?_; simp only [go_sem]) | (refine awp_ret ?_; try simp only [go_sem]) | (refine awp_condP rfl ?_; try simp only [go_sem]) | (refine BrP.mk (fun h => ?_) (fun h => ?_) <;> try simp (dsimp := false) (disch := omega) only [wrap64]) | (refine Br.mk (fun h => ?_) (fun h => ?_) <;> try simp (dsimp := false) (disch := omega) only [wrap64]) | refine Ob.mk (by first | omega | (intro _ _; rfl) | trivial | (intros; trivial) | assumption | (intro i hi; have h0 : i = 0 := (by omega); subst h0; first | rfl | trivial) | (intro i hi; have h0 : i = 0 ∨ i = 1 := (by omega); rcases h0 with rfl | rfl <;> rfl) | (intro i hi; have h0 : i = 0 ∨ i = 1 ∨ i = 2 := (by omega); rcases h0 with rfl | rfl | rfl <;> rfl)) ?_ | ((first | ((first | refine atF (f := 25) ?_ | refine atQ (f := 25) ?_); refine cR (hac := specParseWord_ok names s (by omega) (by omega)) (hK := ?_) (hs := by simp only [scrub_tup, scF_vecF, List.map_cons, List.map_nil]; rfl)) | ((first | refine atF (f := 26) ?_ | refine atQ (f := 26) ?_); (first | (refine cIBf (hac := implParseWord_ok names s (by omega) (by omega) 902) (hK := ?_)) | (refine cQIB (hac := implParseWord_ok names s (by omega) (by omega) 902) (hK := ?_)) | (refine cFIB (hac := implParseWord_ok names s (by omega) (by omega) 902) (hK := ?_)))) | ((first | refine atF (f := 17) ?_ | refine atQ (f := 17) ?_); (first | (refine cV (hac := eqInt64S_ok (pwP names s).1 (pwP names s).1 (by omega)) (hK := ?_)) | (refine cQV (hac := eqInt64S_ok (pwP names s).1 (pwP names s).1 (by omega)) (hK := ?_)))) | ((first | refine atF (f := 20) ?_ | refine atQ (f := 20) ?_); (first | (refine cM' (hac := markInt64S_ok (pwP names s).1 1 (by omega) (by omega) 902) (hK := ?_)))) | ((first | refine atF (f := 21) ?_ | refine atQ (f := 21) ?_); (first | (refine cV (hac := held_marks ((pwP names s).1).length 1 (by omega) (by omega)) (hK := ?_)) | (refine cQV (hac := held_marks ((pwP names s).1).length 1 (by omega) (by omega)) (hK := ?_))))); simp (maxSteps := 1000000) (dsimp := false) (implicitDefEqProofs := false) (disch := omega) only [wrap64, go_sem]) | apply_assumption -exfalso -symm)
  all_goals (first | (show endQ _ _ _ _ _ _ _; (repeat (rename (∀ (A : Fr) (H : Hp), AWP _ _ _ _ A H → _) => hK; clear hK)); (repeat (rename (Fr → Hp → Prop) => K; clear K))) | (show Exists _; (repeat (rename (∀ (A : Fr) (H : Hp), AWP _ _ _ _ A H → _) => hK; clear hK)); (repeat (rename (Fr → Hp → Prop) => K; clear K))) | skip)
  all_goals first | exact end_retV rfl rfl | omega
end Go.Proofs.Ytphpegemhnodcaa
