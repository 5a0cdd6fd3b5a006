import Derived.Test.YtphpegemhnodcaaV4
import Derived.Test.YtphpegemhnodcaaV3
import Derived.Test.YtphpegemhnodcaaV10
import Derived.Test.YtphpegemhnodcaaV5
/- The laws' dice: how they lie in memory, and what a throw answers. -/
section
namespace Go.Proofs.Ytphpegemhnodcaa
open Go.Av
set_option linter.unusedSimpArgs false
set_option linter.unusedVariables false
attribute [local irreducible] AWP CallG Ob Br BrP Go.Av.Sub endQ AOps OpV AC thenA blkA opsVC opVC withA withArgs opsQ opQ CallQ withA2 withArgs2
end Go.Proofs.Ytphpegemhnodcaa
end
/- The laws' dice: how they are made; words of dice; whether codes are big, rows alike. -/
section
namespace Go.Proofs.Ytphpegemhnodcaa
open Go.Av
set_option linter.unusedSimpArgs false
set_option linter.unusedVariables false
attribute [local irreducible] AWP CallG Ob Br BrP Go.Av.Sub endQ AOps OpV AC thenA blkA opsVC opVC withA withArgs opsQ opQ CallQ withA2 withArgs2
open Go.Pm (Pm comp invp idn img)
end Go.Proofs.Ytphpegemhnodcaa
end
/- Which of two words is less. -/
section
namespace Go.Proofs.Ytphpegemhnodcaa
open Go.Av
set_option linter.unusedSimpArgs false
set_option linter.unusedVariables false
attribute [local irreducible] AWP CallG Ob Br BrP Go.Av.Sub endQ AOps OpV AC thenA blkA opsVC opVC withA withArgs opsQ opQ CallQ withA2 withArgs2
def rk (x : Int) : Int := if x < 0 then -2 * x - 1 else 2 * x - 2
end Go.Proofs.Ytphpegemhnodcaa
end
/- The reference's sources of choices: how they lie in memory, and what they answer. -/
section
namespace Go.Proofs.Ytphpegemhnodcaa
open Go.Av
set_option linter.unusedSimpArgs false
set_option linter.unusedVariables false
attribute [local irreducible] AWP CallG Ob Br BrP Go.Av.Sub endQ AOps OpV AC thenA blkA opsVC opVC withA withArgs opsQ opQ CallQ withA2 withArgs2
end Go.Proofs.Ytphpegemhnodcaa
end
/- Free reduction, and the lengths of words: both texts. -/
section
namespace Go.Proofs.Ytphpegemhnodcaa
open Go.Av
set_option linter.unusedSimpArgs false
set_option linter.unusedVariables false
attribute [local irreducible] AWP CallG Ob Br BrP Go.Av.Sub endQ AOps OpV AC thenA blkA opsVC opVC withA withArgs opsQ opQ CallQ withA2 withArgs2
open Go.Wd (fr frS)
end Go.Proofs.Ytphpegemhnodcaa
end
/- Runs of letters: the program's. -/
section
namespace Go.Proofs.Ytphpegemhnodcaa
open Go.Av
set_option linter.unusedSimpArgs false
set_option linter.unusedVariables false
attribute [local irreducible] AWP CallG Ob Br BrP Go.Av.Sub endQ AOps OpV AC thenA blkA opsVC opVC withA withArgs opsQ opQ CallQ withA2 withArgs2
open Go.Wd (runsK)
/-- The rows of runs: all but the last are only read from now on. -/
def runF (xs : List (List Int)) (i : Nat) : AV := if i + 1 < xs.length then ints (xs.getD i []) else .own 31 0 1 (xs.getD i []).length
end Go.Proofs.Ytphpegemhnodcaa
end
/- The lengths of words; words one behind the other. -/
section
namespace Go.Proofs.Ytphpegemhnodcaa
open Go.Av
set_option linter.unusedSimpArgs false
set_option linter.unusedVariables false
attribute [local irreducible] AWP CallG Ob Br BrP Go.Av.Sub endQ AOps OpV AC thenA blkA opsVC opVC withA withArgs opsQ opQ CallQ withA2 withArgs2
open Go.Wd (fr runsK)
end Go.Proofs.Ytphpegemhnodcaa
end
/- Words one behind the other: both texts. -/
section
namespace Go.Proofs.Ytphpegemhnodcaa
open Go.Av
set_option linter.unusedSimpArgs false
set_option linter.unusedVariables false
attribute [local irreducible] AWP CallG Ob Br BrP Go.Av.Sub endQ AOps OpV AC thenA blkA opsVC opVC withA withArgs opsQ opQ CallQ withA2 withArgs2
theorem fits_lit {H : Hp} {D : Nat → Prop} {h n : Nat} {xs : List (List Int)} {f : Nat → AV} (hH : H h = some (.cells n f)) (hD : D h) (hn : n = xs.length) (hf : ∀ i, i < n → Fits H D (f i) (ints (xs.getD i []))) : Fits H D (.own h 0 1 n) (intss xs) := by
  subst hn
  refine .own hH hD (by omega) (fun i hi => trivial) fun i hi => ?_
  rw [Nat.zero_add]
  exact hf i (by omega)
theorem fits_lit3 {H : Hp} {D : Nat → Prop} {h : Nat} {a b c : List Int} {z : Nat → AV} (hH : H h = some (.cells 3 (setF (setF (setF z 0 (ints a)) 1 (ints b)) 2 (ints c)))) (hD : D h) : Fits H D (.own h 0 1 3) (intss [a, b, c]) :=
  fits_lit hH hD rfl fun i hi => by
    match i, hi with
    | 0, _ => exact .refl _
    | 1, _ => exact .refl _
    | 2, _ => exact .refl _
theorem fits_lit4 {H : Hp} {D : Nat → Prop} {h : Nat} {a b c e : List Int} {z : Nat → AV} (hH : H h = some (.cells 4 (setF (setF (setF (setF z 0 (ints a)) 1 (ints b)) 2 (ints c)) 3 (ints e)))) (hD : D h) : Fits H D (.own h 0 1 4) (intss [a, b, c, e]) :=
  fits_lit hH hD rfl fun i hi => by
    match i, hi with
    | 0, _ => exact .refl _
    | 1, _ => exact .refl _
    | 2, _ => exact .refl _
    | 3, _ => exact .refl _
theorem sliceGrow_ok (n : Nat) (hn : n ≤ 1048576) (d : Nat) : AC Try.prog 221 [.v (.slice none 0 0), .v (.int .i64 (n))] Hp.emp (fun _ => false) (retI d []) := by
  refine ac_of_awp (N := ⟨_, fun _ => false, fun _ _ => rfl⟩) Try.func221 rfl (by kernel_rfl) Try.ntmps221 (by simp) ?_
  simp only [argsFr, List.zipIdx_cons, List.zipIdx_nil, go_sem]
  repeat' (first | refine awp_seqK fun K hK => ?_ | (refine awp_regionK 65619 rfl ?_; simp only [List.map_cons, List.map_nil]; simp (maxSteps := 1000000) (dsimp := false) (implicitDefEqProofs := false) (disch := omega) only [wrap64, go_sem]) | (refine awp_regionQK 65619 (by kernel_rfl) (by kernel_rfl) (by kernel_rfl) ?_; simp only [List.map_cons, List.map_nil]; simp (maxSteps := 1000000) (dsimp := false) (implicitDefEqProofs := false) (disch := omega) only [wrap64, go_sem]) | refine awp_block ?_ | (refine awp_skip ?_; simp only [go_sem]) | (refine awp_exit ?_; simp only [go_sem]) | (refine awp_ret ?_; try simp only [go_sem]) | (refine awp_condP rfl ?_; try simp only [go_sem]) | (refine BrP.mk (fun h => ?_) (fun h => ?_) <;> try simp (dsimp := false) (disch := omega) only [wrap64]) | (refine Br.mk (fun h => ?_) (fun h => ?_) <;> try simp (dsimp := false) (disch := omega) only [wrap64]) | refine Ob.mk (by first | omega | (intro _ _; rfl) | trivial | (intros; trivial) | assumption | (intro i hi; have h0 : i = 0 := (by omega); subst h0; first | rfl | trivial) | (intro i hi; have h0 : i = 0 ∨ i = 1 := (by omega); rcases h0 with rfl | rfl <;> rfl) | (intro i hi; have h0 : i = 0 ∨ i = 1 ∨ i = 2 := (by omega); rcases h0 with rfl | rfl | rfl <;> rfl)) ?_ | apply_assumption -exfalso -symm)
  all_goals (first | (show endQ _ _ _ _ _ _ _; (repeat (rename (∀ (A : Fr) (H : Hp), AWP _ _ _ _ A H → _) => hK; clear hK)); (repeat (rename (Fr → Hp → Prop) => K; clear K))) | (show Exists _; (repeat (rename (∀ (A : Fr) (H : Hp), AWP _ _ _ _ A H → _) => hK; clear hK)); (repeat (rename (Fr → Hp → Prop) => K; clear K))) | skip)
  · omega
  · exact endQ_sub ((Sub.shrink (h := 22) (m := 0) rfl (by omega)).trans (Sub.cells (f' := cM iv 0 []) (fun i h => absurd h (by omega)))) (end_retI (m := 0) (h := 22) (xs := []) rfl rfl rfl rfl rfl)
  · exact end_retI_nil rfl rfl rfl
theorem flat_take (ws : List (List Int)) (k : Nat) : (ws.take k).flatten.length ≤ ws.flatten.length := by
  conv => rhs; rw [← List.take_append_drop k ws, List.flatten_append, List.length_append]
  omega
theorem flat_snoc (ws : List (List Int)) (k : Nat) (h : k < ws.length) : (ws.take (k + 1)).flatten = (ws.take k).flatten ++ ws.getD k [] := by
  rw [List.take_add_one, List.flatten_append, List.getD_eq_getElem?_getD, List.getElem?_eq_getElem h]
  simp
theorem sliceConcat_ok (ws : List (List Int)) (hl : ws.length ≤ 1048576) (ht : ws.flatten.length ≤ 1048576) (d : Nat) : AC Try.prog 177 [intss ws] Hp.emp (fun _ => false) (retI d ws.flatten) := by
  refine ac_of_awp (N := ⟨_, fun _ => false, fun _ _ => rfl⟩) Try.func177 rfl (by kernel_rfl) Try.ntmps177 (by simp) ?_
  simp only [argsFr, List.zipIdx_cons, List.zipIdx_nil, go_sem]
  repeat' (first | refine awp_seqK fun K hK => ?_ | (refine awp_regionK 504373101 rfl ?_; simp only [List.map_cons, List.map_nil]; simp (maxSteps := 1000000) (dsimp := false) (implicitDefEqProofs := false) (disch := omega) only [wrap64, go_sem]) | (refine awp_regionQK 504373101 (by kernel_rfl) (by kernel_rfl) (by kernel_rfl) ?_; simp only [List.map_cons, List.map_nil]; simp (maxSteps := 1000000) (dsimp := false) (implicitDefEqProofs := false) (disch := omega) only [wrap64, go_sem]) | refine awp_block ?_ | (refine awp_skip ?_; simp only [go_sem]) | (refine awp_exit ?_; simp only [go_sem]) | (refine awp_ret ?_; try simp only [go_sem]) | (refine awp_condP rfl ?_; try simp only [go_sem]) | (refine BrP.mk (fun h => ?_) (fun h => ?_) <;> try simp (dsimp := false) (disch := omega) only [wrap64]) | (refine Br.mk (fun h => ?_) (fun h => ?_) <;> try simp (dsimp := false) (disch := omega) only [wrap64]) | refine Ob.mk (by first | omega | (intro _ _; rfl) | trivial | (intros; trivial) | assumption | (intro i hi; have h0 : i = 0 := (by omega); subst h0; first | rfl | trivial) | (intro i hi; have h0 : i = 0 ∨ i = 1 := (by omega); rcases h0 with rfl | rfl <;> rfl) | (intro i hi; have h0 : i = 0 ∨ i = 1 ∨ i = 2 := (by omega); rcases h0 with rfl | rfl | rfl <;> rfl)) ?_ | apply_assumption -exfalso -symm)
  all_goals (first | (show endQ _ _ _ _ _ _ _; (repeat (rename (∀ (A : Fr) (H : Hp), AWP _ _ _ _ A H → _) => hK; clear hK)); (repeat (rename (Fr → Hp → Prop) => K; clear K))) | (show Exists _; (repeat (rename (∀ (A : Fr) (H : Hp), AWP _ _ _ _ A H → _) => hK; clear hK)); (repeat (rename (Fr → Hp → Prop) => K; clear K))) | skip)
  refine awp_loop (ι := Nat) (fun k => [(11, .v (.int .i64 (k))), (10, .v (.int .i64 (ws.length))), (9, .list false 1 (ws).length (cM ints [] (ws))), (0, .list false 1 (ws).length (cM ints [] (ws))), (3, .v (.int .i64 (((ws.take k).flatten.length : Nat))))]) (fun k => Hp.emp) (fun k => k ≤ ws.length) (fun k => ws.length - k) 0 ?_ (Sub.toL (by simp only [go_sem] <;> first | trivial | (simp only [Option.some.injEq, AV.v.injEq, AV.own.injEq, AV.list.injEq, Value.int.injEq, Value.bool.injEq, true_and, and_true]; first | omega | (simp; done)) | (simp; done) | (simp; omega)) (by (repeat' (first | exact Hp.le_emp _ | exact Hp.le_refl _ | refine Hp.le_upd ?_ ?_)); all_goals (first | rfl | (simp only [go_sem]; first | rfl | (refine cellsE ?_ ?_ <;> (simp)) | (simp))))) ?_
  · exact Nat.zero_le _
  · intro k hk
    have h1 := flat_take ws k
    have h2 := flat_take ws (k + 1)
    have h3 := fun h => congrArg List.length (flat_snoc ws k h)
    simp only [List.length_append] at h3
    repeat' (first | refine awp_seqK fun K hK => ?_ | (refine awp_regionK 504373101 rfl ?_; simp only [List.map_cons, List.map_nil]; simp (maxSteps := 1000000) (dsimp := false) (implicitDefEqProofs := false) (disch := omega) only [wrap64, go_sem]) | (refine awp_regionQK 504373101 (by kernel_rfl) (by kernel_rfl) (by kernel_rfl) ?_; simp only [List.map_cons, List.map_nil]; simp (maxSteps := 1000000) (dsimp := false) (implicitDefEqProofs := false) (disch := omega) only [wrap64, go_sem]) | refine awp_block ?_ | (refine awp_skip ?_; simp only [go_sem]) | (refine awp_exit ?_; simp only [go_sem]) | (refine awp_ret ?_; try simp only [go_sem]) | (refine awp_condP rfl ?_; try simp only [go_sem]) | (refine BrP.mk (fun h => ?_) (fun h => ?_) <;> try simp (dsimp := false) (disch := omega) only [wrap64]) | (refine Br.mk (fun h => ?_) (fun h => ?_) <;> try simp (dsimp := false) (disch := omega) only [wrap64]) | refine Ob.mk (by first | omega | (intro _ _; rfl) | trivial | (intros; trivial) | assumption | (intro i hi; have h0 : i = 0 := (by omega); subst h0; first | rfl | trivial) | (intro i hi; have h0 : i = 0 ∨ i = 1 := (by omega); rcases h0 with rfl | rfl <;> rfl) | (intro i hi; have h0 : i = 0 ∨ i = 1 ∨ i = 2 := (by omega); rcases h0 with rfl | rfl | rfl <;> rfl)) ?_ | apply_assumption -exfalso -symm)
    all_goals (first | (show endQ _ _ _ _ _ _ _; (repeat (rename (∀ (A : Fr) (H : Hp), AWP _ _ _ _ A H → _) => hK; clear hK)); (repeat (rename (Fr → Hp → Prop) => K; clear K))) | (show Exists _; (repeat (rename (∀ (A : Fr) (H : Hp), AWP _ _ _ _ A H → _) => hK; clear hK)); (repeat (rename (Fr → Hp → Prop) => K; clear K))) | skip)
    · omega
    · exact ⟨k + 1, by omega, by omega, Sub.toL (by simp only [go_sem] <;> first | trivial | (simp only [Option.some.injEq, AV.v.injEq, AV.own.injEq, AV.list.injEq, Value.int.injEq, Value.bool.injEq, true_and, and_true]; first | omega | (simp; done)) | (simp; done) | (simp; omega)) (Hp.le_refl _)⟩
    · have e : k = ws.length := by omega
      subst e
      rw [List.take_length]
      repeat' (first | refine awp_seqK fun K hK => ?_ | (refine awp_regionK 504373101 rfl ?_; simp only [List.map_cons, List.map_nil]; simp (maxSteps := 1000000) (dsimp := false) (implicitDefEqProofs := false) (disch := omega) only [wrap64, go_sem]) | (refine awp_regionQK 504373101 (by kernel_rfl) (by kernel_rfl) (by kernel_rfl) ?_; simp only [List.map_cons, List.map_nil]; simp (maxSteps := 1000000) (dsimp := false) (implicitDefEqProofs := false) (disch := omega) only [wrap64, go_sem]) | refine awp_block ?_ | (refine awp_skip ?_; simp only [go_sem]) | (refine awp_exit ?_; simp only [go_sem]) | (refine awp_ret ?_; try simp only [go_sem]) | (refine awp_condP rfl ?_; try simp only [go_sem]) | (refine BrP.mk (fun h => ?_) (fun h => ?_) <;> try simp (dsimp := false) (disch := omega) only [wrap64]) | (refine Br.mk (fun h => ?_) (fun h => ?_) <;> try simp (dsimp := false) (disch := omega) only [wrap64]) | refine Ob.mk (by first | omega | (intro _ _; rfl) | trivial | (intros; trivial) | assumption | (intro i hi; have h0 : i = 0 := (by omega); subst h0; first | rfl | trivial) | (intro i hi; have h0 : i = 0 ∨ i = 1 := (by omega); rcases h0 with rfl | rfl <;> rfl) | (intro i hi; have h0 : i = 0 ∨ i = 1 ∨ i = 2 := (by omega); rcases h0 with rfl | rfl | rfl <;> rfl)) ?_ | ((first | ((first | refine atF (f := 221) ?_ | refine atQ (f := 221) ?_); (first | (refine cI (hac := sliceGrow_ok ws.flatten.length ht 40) (hK := ?_)) | (refine cQI (hac := sliceGrow_ok ws.flatten.length ht 40) (hK := ?_))))); simp (maxSteps := 1000000) (dsimp := false) (implicitDefEqProofs := false) (disch := omega) only [wrap64, go_sem]) | apply_assumption -exfalso -symm)
      all_goals (first | (show endQ _ _ _ _ _ _ _; (repeat (rename (∀ (A : Fr) (H : Hp), AWP _ _ _ _ A H → _) => hK; clear hK)); (repeat (rename (Fr → Hp → Prop) => K; clear K))) | (show Exists _; (repeat (rename (∀ (A : Fr) (H : Hp), AWP _ _ _ _ A H → _) => hK; clear hK)); (repeat (rename (Fr → Hp → Prop) => K; clear K))) | skip)
      refine awp_loop (ι := Nat) (fun k => [(27, .v (.int .i64 (k))), (26, .v (.int .i64 (ws.length))), (25, .list false 1 (ws).length (cM ints [] (ws))), (6, .own 40 0 1 (ws.take k).flatten.length)]) (fun k => Hp.emp.upd 40 (.cells (ws.take k).flatten.length (cM iv 0 (ws.take k).flatten))) (fun k => k ≤ ws.length) (fun k => ws.length - k) 0 ?_ (Sub.toL (by simp only [go_sem] <;> first | trivial | (simp only [Option.some.injEq, AV.v.injEq, AV.own.injEq, AV.list.injEq, Value.int.injEq, Value.bool.injEq, true_and, and_true]; first | omega | (simp [List.take_zero, List.flatten_nil]; done)) | (simp [List.take_zero, List.flatten_nil]; done) | (simp [List.take_zero, List.flatten_nil]; omega)) (by (repeat' (first | exact Hp.le_emp _ | exact Hp.le_refl _ | refine Hp.le_upd ?_ ?_)); all_goals (first | rfl | (simp only [go_sem]; first | rfl | (refine cellsE ?_ ?_ <;> (simp [List.take_zero, List.flatten_nil])) | (simp [List.take_zero, List.flatten_nil]))))) ?_
      · exact Nat.zero_le _
      intro k hk
      have h1 := flat_take ws k
      have h2 := flat_take ws (k + 1)
      have h4 := flat_snoc ws k
      have h3 := fun h => congrArg List.length (flat_snoc ws k h)
      simp only [List.length_append] at h3
      repeat' (first | refine awp_seqK fun K hK => ?_ | (refine awp_regionK 504373101 rfl ?_; simp only [List.map_cons, List.map_nil]; simp (maxSteps := 1000000) (dsimp := false) (implicitDefEqProofs := false) (disch := omega) only [wrap64, go_sem]) | (refine awp_regionQK 504373101 (by kernel_rfl) (by kernel_rfl) (by kernel_rfl) ?_; simp only [List.map_cons, List.map_nil]; simp (maxSteps := 1000000) (dsimp := false) (implicitDefEqProofs := false) (disch := omega) only [wrap64, go_sem]) | refine awp_block ?_ | (refine awp_skip ?_; simp only [go_sem]) | (refine awp_exit ?_; simp only [go_sem]) | (refine awp_ret ?_; try simp only [go_sem]) | (refine awp_condP rfl ?_; try simp only [go_sem]) | (refine BrP.mk (fun h => ?_) (fun h => ?_) <;> try simp (dsimp := false) (disch := omega) only [wrap64]) | (refine Br.mk (fun h => ?_) (fun h => ?_) <;> try simp (dsimp := false) (disch := omega) only [wrap64]) | refine Ob.mk (by first | omega | (intro _ _; rfl) | trivial | (intros; trivial) | assumption | (intro i hi; have h0 : i = 0 := (by omega); subst h0; first | rfl | trivial) | (intro i hi; have h0 : i = 0 ∨ i = 1 := (by omega); rcases h0 with rfl | rfl <;> rfl) | (intro i hi; have h0 : i = 0 ∨ i = 1 ∨ i = 2 := (by omega); rcases h0 with rfl | rfl | rfl <;> rfl)) ?_ | apply_assumption -exfalso -symm)
      all_goals (first | (show endQ _ _ _ _ _ _ _; (repeat (rename (∀ (A : Fr) (H : Hp), AWP _ _ _ _ A H → _) => hK; clear hK)); (repeat (rename (Fr → Hp → Prop) => K; clear K))) | (show Exists _; (repeat (rename (∀ (A : Fr) (H : Hp), AWP _ _ _ _ A H → _) => hK; clear hK)); (repeat (rename (Fr → Hp → Prop) => K; clear K))) | skip)
      · have h5 := h4 (by omega)
        exact ⟨k + 1, by omega, by omega, Sub.toL (by simp only [go_sem] <;> first | trivial | (simp only [Option.some.injEq, AV.v.injEq, AV.own.injEq, AV.list.injEq, Value.int.injEq, Value.bool.injEq, true_and, and_true]; first | omega | (simp [h5]; done)) | (simp [h5]; done) | (simp [h5]; omega)) (by (repeat' (first | exact Hp.le_emp _ | exact Hp.le_refl _ | refine Hp.le_upd ?_ ?_)); all_goals (first | rfl | (simp only [go_sem]; first | rfl | (refine cellsE ?_ ?_ <;> (simp [h5])) | (simp [h5]))))⟩
      · have e : k = ws.length := by omega
        subst e
        rw [List.take_length]
        exact end_retI' rfl rfl rfl rfl rfl rfl
end Go.Proofs.Ytphpegemhnodcaa
end
/- Which of two words is less: both texts, any words. -/
section
namespace Go.Proofs.Ytphpegemhnodcaa
open Go.Av
set_option linter.unusedSimpArgs false
set_option linter.unusedVariables false
attribute [local irreducible] AWP CallG Ob Br BrP Go.Av.Sub endQ AOps OpV AC thenA blkA opsVC opVC withA withArgs opsQ opQ CallQ withA2 withArgs2
/-- The first letters that differ say which word is less. -/
def wlx : List Int → List Int → Int
  | x :: xs, y :: ys => if x = y then wlx xs ys else rk x - rk y
  | _, _ => 0
def cmpW (a b : List Int) : Int := if a.length ≠ b.length then (a.length : Int) - b.length else wlx a b
def lessW (a b : List Int) : Prop := isW 8 a ∧ isW 8 b ∧ cmpW a b < 0
instance (a b : List Int) : Decidable (lessW a b) := by unfold lessW; infer_instance
end Go.Proofs.Ytphpegemhnodcaa
end
/- The reference's sources: permutations and generators that are drawn. -/
section
namespace Go.Proofs.Ytphpegemhnodcaa
open Go.Av
set_option linter.unusedSimpArgs false
set_option linter.unusedVariables false
attribute [local irreducible] AWP CallG Ob Br BrP Go.Av.Sub endQ AOps OpV AC thenA blkA opsVC opVC withA withArgs opsQ opQ CallQ withA2 withArgs2
end Go.Proofs.Ytphpegemhnodcaa
end
/- The reference's sources: numbers, permutations and groups that are drawn. -/
section
namespace Go.Proofs.Ytphpegemhnodcaa
open Go.Av
set_option linter.unusedSimpArgs false
set_option linter.unusedVariables false
attribute [local irreducible] AWP CallG Ob Br BrP Go.Av.Sub endQ AOps OpV AC thenA blkA opsVC opVC withA withArgs opsQ opQ CallQ withA2 withArgs2
theorem app_fit {H : Hp} {D : Nat → Prop} {h n : Nat} {g : List Int} {z : Nat → AV} (gs : List (List Int)) (hH : H h = some (.cells n (cM iv 0 g))) (hD : D h) (hn : n = g.length) : ∀ i, i < gs.length + 1 → Fits H D (apF gs.length (cM ints [] gs) (setF z 0 (.own h 0 1 n)) i) (cM ints [] (gs ++ [g]) i) := fun i hi => by
  by_cases hi2 : i < gs.length
  · exact .ofEq (by simp [apF, cM, List.getD_eq_getElem?_getD, List.getElem?_append, hi2])
  · have hi3 : i = gs.length := by omega
    have e2 : apF gs.length (cM ints [] gs) (setF z 0 (.own h 0 1 n)) i = .own h 0 1 n := by subst hi3; simp [apF, setF]
    have e3 : cM ints [] (gs ++ [g]) i = ints g := by subst hi3; simp [cM, List.getD_eq_getElem?_getD]
    rw [e2, e3]
    exact fits_I hH hD rfl hn
theorem fits_II0 {H : Hp} {D : Nat → Prop} {h : Nat} {f : Nat → AV} (hH : H h = some (.cells 0 f)) (hD : D h) : Fits H D (.own h 0 1 0) (intss []) :=
  .own hH hD (by omega) (fun i hi => trivial) fun i hi => absurd hi (by simp)
end Go.Proofs.Ytphpegemhnodcaa
end
