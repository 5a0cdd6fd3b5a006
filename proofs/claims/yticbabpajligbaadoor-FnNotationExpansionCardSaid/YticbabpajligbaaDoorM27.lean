import Derived.Test.YticbabpajligbaaDoorM26
import Derived.Test.YticbabpajligbaaDoorM3
import Derived.Test.YticbabpajligbaaDoorM24
import Derived.Test.YticbabpajligbaaDoorM4
import Derived.Test.YticbabpajligbaaDoorM25
import Derived.Test.YticbabpajligbaaDoorM15
import Derived.Test.YticbabpajligbaaDoorM13
import Derived.Test.YticbabpajligbaaDoorM17
/- The lengths of words; words one behind the other. -/
section
namespace Go.Proofs.YticbabpajligbaaDoor
open Go.Av
set_option linter.unusedSimpArgs false
set_option linter.unusedVariables false
attribute [local irreducible] AWP CallG Ob Br BrP Go.Av.Sub endQ AOps OpV AC thenA blkA opsVC opVC withA withArgs opsQ opQ CallQ withA2 withArgs2
open Go.Wd (fr runsK)
end Go.Proofs.YticbabpajligbaaDoor
end
/- Words one behind the other: both texts. -/
section
namespace Go.Proofs.YticbabpajligbaaDoor
open Go.Av
set_option linter.unusedSimpArgs false
set_option linter.unusedVariables false
attribute [local irreducible] AWP CallG Ob Br BrP Go.Av.Sub endQ AOps OpV AC thenA blkA opsVC opVC withA withArgs opsQ opQ CallQ withA2 withArgs2
theorem fits_lit {H : Hp} {D : Nat → Prop} {h n : Nat} {xs : List (List Int)} {f : Nat → AV} (hH : H h = some (.cells n f)) (hD : D h) (hn : n = xs.length) (hf : ∀ i, i < n → Fits H D (f i) (ints (xs.getD i []))) : Fits H D (.own h 0 1 n) (intss xs) := by
  subst hn
  refine .own hH hD (by omega) (fun i hi => trivial) fun i hi => ?_
  rw [Nat.zero_add]
  exact hf i (by omega)
theorem fits_lit3 {H : Hp} {D : Nat → Prop} {h : Nat} {a b c : List Int} {z : Nat → AV} (hH : H h = some (.cells 3 (setF (setF (setF z 0 (ints a)) 1 (ints b)) 2 (ints c)))) (hD : D h) : Fits H D (.own h 0 1 3) (intss [a, b, c]) :=
  fits_lit hH hD rfl fun i hi => by
    match i, hi with
    | 0, _ => exact .refl _
    | 1, _ => exact .refl _
    | 2, _ => exact .refl _
theorem fits_lit4 {H : Hp} {D : Nat → Prop} {h : Nat} {a b c e : List Int} {z : Nat → AV} (hH : H h = some (.cells 4 (setF (setF (setF (setF z 0 (ints a)) 1 (ints b)) 2 (ints c)) 3 (ints e)))) (hD : D h) : Fits H D (.own h 0 1 4) (intss [a, b, c, e]) :=
  fits_lit hH hD rfl fun i hi => by
    match i, hi with
    | 0, _ => exact .refl _
    | 1, _ => exact .refl _
    | 2, _ => exact .refl _
    | 3, _ => exact .refl _
theorem sliceGrow_ok (n : Nat) (hn : n ≤ 1048576) (d : Nat) : AC Tryd.prog 119 [.v (.slice none 0 0), .v (.int .i64 (n))] Hp.emp (fun _ => false) (retI d []) := by
  refine ac_of_awp (N := ⟨_, fun _ => false, fun _ _ => rfl, true⟩) Tryd.func119 rfl (by kernel_rfl) Tryd.ntmps119 (by simp) ?_
  simp only [argsFr, List.zipIdx_cons, List.zipIdx_nil, go_sem]
  repeat' (first | refine awp_seqK fun K hK => ?_ | (refine awp_regionK 65619 rfl ?_; simp only [List.map_cons, List.map_nil]; simp (maxSteps := 1000000) (dsimp := false) (implicitDefEqProofs := false) (disch := omega) only [wrap64, go_sem]) | (refine awp_regionQK 65619 (by kernel_rfl) (by kernel_rfl) (by kernel_rfl) ?_; simp only [List.map_cons, List.map_nil]; simp (maxSteps := 1000000) (dsimp := false) (implicitDefEqProofs := false) (disch := omega) only [wrap64, go_sem]) | refine awp_block ?_ | (refine awp_skip ?_; simp only [go_sem]) | (refine awp_exit ?_; simp only [go_sem]) | (refine awp_ret ?_; try simp only [go_sem]) | (refine awp_condP rfl ?_; try simp only [go_sem]) | (refine BrP.mk (fun h => ?_) (fun h => ?_) <;> try simp (dsimp := false) (disch := omega) only [wrap64]) | (refine Br.mk (fun h => ?_) (fun h => ?_) <;> try simp (dsimp := false) (disch := omega) only [wrap64]) | refine Ob.mk (by first | omega | (intro _ _; rfl) | trivial | (intros; trivial) | assumption | (intro i hi; have h0 : i = 0 := (by omega); subst h0; first | rfl | trivial) | (intro i hi; have h0 : i = 0 ∨ i = 1 := (by omega); rcases h0 with rfl | rfl <;> rfl) | (intro i hi; have h0 : i = 0 ∨ i = 1 ∨ i = 2 := (by omega); rcases h0 with rfl | rfl | rfl <;> rfl)) ?_ | apply_assumption -exfalso -symm)
  all_goals (first | (show endQ _ _ _ _ _ _ _; (repeat (rename (∀ (A : Fr) (H : Hp), AWP _ _ _ _ A H → _) => hK; clear hK)); (repeat (rename (Fr → Hp → Prop) => K; clear K))) | (show Exists _; (repeat (rename (∀ (A : Fr) (H : Hp), AWP _ _ _ _ A H → _) => hK; clear hK)); (repeat (rename (Fr → Hp → Prop) => K; clear K))) | skip)
  · omega
  · exact endQ_sub ((Sub.shrink (h := 22) (m := 0) rfl (by omega)).trans (Sub.cells (f' := cM iv 0 []) (fun i h => absurd h (by omega)))) (end_retI (m := 0) (h := 22) (xs := []) rfl rfl rfl rfl rfl)
  · exact end_retI_nil rfl rfl rfl
theorem flat_take (ws : List (List Int)) (k : Nat) : (ws.take k).flatten.length ≤ ws.flatten.length := by
  conv => rhs; rw [← List.take_append_drop k ws, List.flatten_append, List.length_append]
  omega
theorem flat_snoc (ws : List (List Int)) (k : Nat) (h : k < ws.length) : (ws.take (k + 1)).flatten = (ws.take k).flatten ++ ws.getD k [] := by
  rw [List.take_add_one, List.flatten_append, List.getD_eq_getElem?_getD, List.getElem?_eq_getElem h]
  simp
theorem sliceConcat_ok (ws : List (List Int)) (hl : ws.length ≤ 1048576) (ht : ws.flatten.length ≤ 1048576) (d : Nat) : AC Tryd.prog 100 [intss ws] Hp.emp (fun _ => false) (retI d ws.flatten) := by
  refine ac_of_awp (N := ⟨_, fun _ => false, fun _ _ => rfl, true⟩) Tryd.func100 rfl (by kernel_rfl) Tryd.ntmps100 (by simp) ?_
  simp only [argsFr, List.zipIdx_cons, List.zipIdx_nil, go_sem]
  repeat' (first | refine awp_seqK fun K hK => ?_ | (refine awp_regionK 504373101 rfl ?_; simp only [List.map_cons, List.map_nil]; simp (maxSteps := 1000000) (dsimp := false) (implicitDefEqProofs := false) (disch := omega) only [wrap64, go_sem]) | (refine awp_regionQK 504373101 (by kernel_rfl) (by kernel_rfl) (by kernel_rfl) ?_; simp only [List.map_cons, List.map_nil]; simp (maxSteps := 1000000) (dsimp := false) (implicitDefEqProofs := false) (disch := omega) only [wrap64, go_sem]) | refine awp_block ?_ | (refine awp_skip ?_; simp only [go_sem]) | (refine awp_exit ?_; simp only [go_sem]) | (refine awp_ret ?_; try simp only [go_sem]) | (refine awp_condP rfl ?_; try simp only [go_sem]) | (refine BrP.mk (fun h => ?_) (fun h => ?_) <;> try simp (dsimp := false) (disch := omega) only [wrap64]) | (refine Br.mk (fun h => ?_) (fun h => ?_) <;> try simp (dsimp := false) (disch := omega) only [wrap64]) | refine Ob.mk (by first | omega | (intro _ _; rfl) | trivial | (intros; trivial) | assumption | (intro i hi; have h0 : i = 0 := (by omega); subst h0; first | rfl | trivial) | (intro i hi; have h0 : i = 0 ∨ i = 1 := (by omega); rcases h0 with rfl | rfl <;> rfl) | (intro i hi; have h0 : i = 0 ∨ i = 1 ∨ i = 2 := (by omega); rcases h0 with rfl | rfl | rfl <;> rfl)) ?_ | apply_assumption -exfalso -symm)
  all_goals (first | (show endQ _ _ _ _ _ _ _; (repeat (rename (∀ (A : Fr) (H : Hp), AWP _ _ _ _ A H → _) => hK; clear hK)); (repeat (rename (Fr → Hp → Prop) => K; clear K))) | (show Exists _; (repeat (rename (∀ (A : Fr) (H : Hp), AWP _ _ _ _ A H → _) => hK; clear hK)); (repeat (rename (Fr → Hp → Prop) => K; clear K))) | skip)
  refine awp_loop (ι := Nat) (fun k => [(11, .v (.int .i64 (k))), (10, .v (.int .i64 (ws.length))), (9, .list false 1 (ws).length (cM ints [] (ws))), (0, .list false 1 (ws).length (cM ints [] (ws))), (3, .v (.int .i64 (((ws.take k).flatten.length : Nat))))]) (fun k => Hp.emp) (fun k => k ≤ ws.length) (fun k => ws.length - k) 0 ?_ (Sub.toL (by simp only [go_sem] <;> first | trivial | (simp only [Option.some.injEq, AV.v.injEq, AV.own.injEq, AV.list.injEq, Value.int.injEq, Value.bool.injEq, true_and, and_true]; first | omega | (simp; done)) | (simp; done) | (simp; omega)) (by (repeat' (first | exact Hp.le_emp _ | exact Hp.le_refl _ | refine Hp.le_upd ?_ ?_)); all_goals (first | rfl | (simp only [go_sem]; first | rfl | (refine cellsE ?_ ?_ <;> (simp)) | (simp))))) ?_
  · exact Nat.zero_le _
  · intro k hk
    have h1 := flat_take ws k
    have h2 := flat_take ws (k + 1)
    have h3 := fun h => congrArg List.length (flat_snoc ws k h)
    simp only [List.length_append] at h3
    repeat' (first | refine awp_seqK fun K hK => ?_ | (refine awp_regionK 504373101 rfl ?_; simp only [List.map_cons, List.map_nil]; simp (maxSteps := 1000000) (dsimp := false) (implicitDefEqProofs := false) (disch := omega) only [wrap64, go_sem]) | (refine awp_regionQK 504373101 (by kernel_rfl) (by kernel_rfl) (by kernel_rfl) ?_; simp only [List.map_cons, List.map_nil]; simp (maxSteps := 1000000) (dsimp := false) (implicitDefEqProofs := false) (disch := omega) only [wrap64, go_sem]) | refine awp_block ?_ | (refine awp_skip ?_; simp only [go_sem]) | (refine awp_exit ?_; simp only [go_sem]) | (refine awp_ret ?_; try simp only [go_sem]) | (refine awp_condP rfl ?_; try simp only [go_sem]) | (refine BrP.mk (fun h => ?_) (fun h => ?_) <;> try simp (dsimp := false) (disch := omega) only [wrap64]) | (refine Br.mk (fun h => ?_) (fun h => ?_) <;> try simp (dsimp := false) (disch := omega) only [wrap64]) | refine Ob.mk (by first | omega | (intro _ _; rfl) | trivial | (intros; trivial) | assumption | (intro i hi; have h0 : i = 0 := (by omega); subst h0; first | rfl | trivial) | (intro i hi; have h0 : i = 0 ∨ i = 1 := (by omega); rcases h0 with rfl | rfl <;> rfl) | (intro i hi; have h0 : i = 0 ∨ i = 1 ∨ i = 2 := (by omega); rcases h0 with rfl | rfl | rfl <;> rfl)) ?_ | apply_assumption -exfalso -symm)
    all_goals (first | (show endQ _ _ _ _ _ _ _; (repeat (rename (∀ (A : Fr) (H : Hp), AWP _ _ _ _ A H → _) => hK; clear hK)); (repeat (rename (Fr → Hp → Prop) => K; clear K))) | (show Exists _; (repeat (rename (∀ (A : Fr) (H : Hp), AWP _ _ _ _ A H → _) => hK; clear hK)); (repeat (rename (Fr → Hp → Prop) => K; clear K))) | skip)
    · omega
    · exact ⟨k + 1, by omega, by omega, Sub.toL (by simp only [go_sem] <;> first | trivial | (simp only [Option.some.injEq, AV.v.injEq, AV.own.injEq, AV.list.injEq, Value.int.injEq, Value.bool.injEq, true_and, and_true]; first | omega | (simp; done)) | (simp; done) | (simp; omega)) (Hp.le_refl _)⟩
    · have e : k = ws.length := by omega
      subst e
      rw [List.take_length]
      repeat' (first | refine awp_seqK fun K hK => ?_ | (refine awp_regionK 504373101 rfl ?_; simp only [List.map_cons, List.map_nil]; simp (maxSteps := 1000000) (dsimp := false) (implicitDefEqProofs := false) (disch := omega) only [wrap64, go_sem]) | (refine awp_regionQK 504373101 (by kernel_rfl) (by kernel_rfl) (by kernel_rfl) ?_; simp only [List.map_cons, List.map_nil]; simp (maxSteps := 1000000) (dsimp := false) (implicitDefEqProofs := false) (disch := omega) only [wrap64, go_sem]) | refine awp_block ?_ | (refine awp_skip ?_; simp only [go_sem]) | (refine awp_exit ?_; simp only [go_sem]) | (refine awp_ret ?_; try simp only [go_sem]) | (refine awp_condP rfl ?_; try simp only [go_sem]) | (refine BrP.mk (fun h => ?_) (fun h => ?_) <;> try simp (dsimp := false) (disch := omega) only [wrap64]) | (refine Br.mk (fun h => ?_) (fun h => ?_) <;> try simp (dsimp := false) (disch := omega) only [wrap64]) | refine Ob.mk (by first | omega | (intro _ _; rfl) | trivial | (intros; trivial) | assumption | (intro i hi; have h0 : i = 0 := (by omega); subst h0; first | rfl | trivial) | (intro i hi; have h0 : i = 0 ∨ i = 1 := (by omega); rcases h0 with rfl | rfl <;> rfl) | (intro i hi; have h0 : i = 0 ∨ i = 1 ∨ i = 2 := (by omega); rcases h0 with rfl | rfl | rfl <;> rfl)) ?_ | ((first | ((first | refine atF (f := 119) ?_ | refine atQ (f := 119) ?_); (first | (refine cI (hac := sliceGrow_ok ws.flatten.length ht 40) (hK := ?_)) | (refine cQI (hac := sliceGrow_ok ws.flatten.length ht 40) (hK := ?_))))); simp (maxSteps := 1000000) (dsimp := false) (implicitDefEqProofs := false) (disch := omega) only [wrap64, go_sem]) | apply_assumption -exfalso -symm)
      all_goals (first | (show endQ _ _ _ _ _ _ _; (repeat (rename (∀ (A : Fr) (H : Hp), AWP _ _ _ _ A H → _) => hK; clear hK)); (repeat (rename (Fr → Hp → Prop) => K; clear K))) | (show Exists _; (repeat (rename (∀ (A : Fr) (H : Hp), AWP _ _ _ _ A H → _) => hK; clear hK)); (repeat (rename (Fr → Hp → Prop) => K; clear K))) | skip)
      refine awp_loop (ι := Nat) (fun k => [(27, .v (.int .i64 (k))), (26, .v (.int .i64 (ws.length))), (25, .list false 1 (ws).length (cM ints [] (ws))), (6, .own 40 0 1 (ws.take k).flatten.length)]) (fun k => Hp.emp.upd 40 (.cells (ws.take k).flatten.length (cM iv 0 (ws.take k).flatten))) (fun k => k ≤ ws.length) (fun k => ws.length - k) 0 ?_ (Sub.toL (by simp only [go_sem] <;> first | trivial | (simp only [Option.some.injEq, AV.v.injEq, AV.own.injEq, AV.list.injEq, Value.int.injEq, Value.bool.injEq, true_and, and_true]; first | omega | (simp [List.take_zero, List.flatten_nil]; done)) | (simp [List.take_zero, List.flatten_nil]; done) | (simp [List.take_zero, List.flatten_nil]; omega)) (by (repeat' (first | exact Hp.le_emp _ | exact Hp.le_refl _ | refine Hp.le_upd ?_ ?_)); all_goals (first | rfl | (simp only [go_sem]; first | rfl | (refine cellsE ?_ ?_ <;> (simp [List.take_zero, List.flatten_nil])) | (simp [List.take_zero, List.flatten_nil]))))) ?_
      · exact Nat.zero_le _
      intro k hk
      have h1 := flat_take ws k
      have h2 := flat_take ws (k + 1)
      have h4 := flat_snoc ws k
      have h3 := fun h => congrArg List.length (flat_snoc ws k h)
      simp only [List.length_append] at h3
      repeat' (first | refine awp_seqK fun K hK => ?_ | (refine awp_regionK 504373101 rfl ?_; simp only [List.map_cons, List.map_nil]; simp (maxSteps := 1000000) (dsimp := false) (implicitDefEqProofs := false) (disch := omega) only [wrap64, go_sem]) | (refine awp_regionQK 504373101 (by kernel_rfl) (by kernel_rfl) (by kernel_rfl) ?_; simp only [List.map_cons, List.map_nil]; simp (maxSteps := 1000000) (dsimp := false) (implicitDefEqProofs := false) (disch := omega) only [wrap64, go_sem]) | refine awp_block ?_ | (refine awp_skip ?_; simp only [go_sem]) | (refine awp_exit ?_; simp only [go_sem]) | (refine awp_ret ?_; try simp only [go_sem]) | (refine awp_condP rfl ?_; try simp only [go_sem]) | (refine BrP.mk (fun h => ?_) (fun h => ?_) <;> try simp (dsimp := false) (disch := omega) only [wrap64]) | (refine Br.mk (fun h => ?_) (fun h => ?_) <;> try simp (dsimp := false) (disch := omega) only [wrap64]) | refine Ob.mk (by first | omega | (intro _ _; rfl) | trivial | (intros; trivial) | assumption | (intro i hi; have h0 : i = 0 := (by omega); subst h0; first | rfl | trivial) | (intro i hi; have h0 : i = 0 ∨ i = 1 := (by omega); rcases h0 with rfl | rfl <;> rfl) | (intro i hi; have h0 : i = 0 ∨ i = 1 ∨ i = 2 := (by omega); rcases h0 with rfl | rfl | rfl <;> rfl)) ?_ | apply_assumption -exfalso -symm)
      all_goals (first | (show endQ _ _ _ _ _ _ _; (repeat (rename (∀ (A : Fr) (H : Hp), AWP _ _ _ _ A H → _) => hK; clear hK)); (repeat (rename (Fr → Hp → Prop) => K; clear K))) | (show Exists _; (repeat (rename (∀ (A : Fr) (H : Hp), AWP _ _ _ _ A H → _) => hK; clear hK)); (repeat (rename (Fr → Hp → Prop) => K; clear K))) | skip)
      · have h5 := h4 (by omega)
        exact ⟨k + 1, by omega, by omega, Sub.toL (by simp only [go_sem] <;> first | trivial | (simp only [Option.some.injEq, AV.v.injEq, AV.own.injEq, AV.list.injEq, Value.int.injEq, Value.bool.injEq, true_and, and_true]; first | omega | (simp [h5]; done)) | (simp [h5]; done) | (simp [h5]; omega)) (by (repeat' (first | exact Hp.le_emp _ | exact Hp.le_refl _ | refine Hp.le_upd ?_ ?_)); all_goals (first | rfl | (simp only [go_sem]; first | rfl | (refine cellsE ?_ ?_ <;> (simp [h5])) | (simp [h5]))))⟩
      · have e : k = ws.length := by omega
        subst e
        rw [List.take_length]
        exact end_retI' rfl rfl rfl rfl rfl rfl
/-- Words one behind the other, if they are valid and not too long. -/
def joinP (ws : List (List Int)) : List Int × Bool := if (∀ j, j < ws.length → isW 8 (ws.getD j [])) ∧ ws.flatten.length ≤ 200 then (ws.flatten, true) else ([], false)
theorem flat_bound : ∀ (ws : List (List Int)), (∀ j, j < ws.length → isW 8 (ws.getD j [])) → ws.flatten.length ≤ 200 * ws.length
  | [], _ => by simp
  | x :: ws, h => by
    have h0 := (h 0 (by simp)).1
    have ih := flat_bound ws fun j hj => h (j + 1) (by simpa using hj)
    rw [List.flatten_cons, List.length_append, List.length_cons]
    simp only [List.getD_cons_zero] at h0
    omega
theorem specConcatWords_ok (ws : List (List Int)) (hl : ws.length ≤ 8) (hall : ∀ j, (ws.getD j []).length ≤ 1048576) (d : Nat) : AC Tryd.prog 61 [intss ws] Hp.emp (fun _ => false) (retIB d (joinP ws).1 (joinP ws).2) := by
  refine ac_of_awp (N := ⟨_, fun _ => false, fun _ _ => rfl, true⟩) Tryd.func61 rfl (by kernel_rfl) Tryd.ntmps61 (by simp) ?_
  simp only [argsFr, List.zipIdx_cons, List.zipIdx_nil, go_sem]
  repeat' (first | refine awp_seqK fun K hK => ?_ | (refine awp_regionK 268698685 rfl ?_; simp only [List.map_cons, List.map_nil]; simp (maxSteps := 1000000) (dsimp := false) (implicitDefEqProofs := false) (disch := omega) only [wrap64, go_sem]) | (refine awp_regionQK 268698685 (by kernel_rfl) (by kernel_rfl) (by kernel_rfl) ?_; simp only [List.map_cons, List.map_nil]; simp (maxSteps := 1000000) (dsimp := false) (implicitDefEqProofs := false) (disch := omega) only [wrap64, go_sem]) | refine awp_block ?_ | (refine awp_skip ?_; simp only [go_sem]) | (refine awp_exit ?_; simp only [go_sem]) | (refine awp_ret ?_; try simp only [go_sem]) | (refine awp_condP rfl ?_; try simp only [go_sem]) | (refine BrP.mk (fun h => ?_) (fun h => ?_) <;> try simp (dsimp := false) (disch := omega) only [wrap64]) | (refine Br.mk (fun h => ?_) (fun h => ?_) <;> try simp (dsimp := false) (disch := omega) only [wrap64]) | refine Ob.mk (by first | omega | (intro _ _; rfl) | trivial | (intros; trivial) | assumption | (intro i hi; have h0 : i = 0 := (by omega); subst h0; first | rfl | trivial) | (intro i hi; have h0 : i = 0 ∨ i = 1 := (by omega); rcases h0 with rfl | rfl <;> rfl) | (intro i hi; have h0 : i = 0 ∨ i = 1 ∨ i = 2 := (by omega); rcases h0 with rfl | rfl | rfl <;> rfl)) ?_ | apply_assumption -exfalso -symm)
  all_goals (first | (show endQ _ _ _ _ _ _ _; (repeat (rename (∀ (A : Fr) (H : Hp), AWP _ _ _ _ A H → _) => hK; clear hK)); (repeat (rename (Fr → Hp → Prop) => K; clear K))) | (show Exists _; (repeat (rename (∀ (A : Fr) (H : Hp), AWP _ _ _ _ A H → _) => hK; clear hK)); (repeat (rename (Fr → Hp → Prop) => K; clear K))) | skip)
  refine awp_loop (ι := Nat) (fun k => [(5, .v (.int .i64 (k))), (0, .list false 1 (ws).length (cM ints [] (ws))), (4, .own 6 0 1 (ws.take k).flatten.length)]) (fun k => Hp.emp.upd 6 (.cells (ws.take k).flatten.length (cM iv 0 (ws.take k).flatten))) (fun k => k ≤ ws.length ∧ ∀ j, j < k → isW 8 (ws.getD j [])) (fun k => ws.length - k) 0 ?_ (Sub.toL (by simp only [go_sem] <;> first | trivial | (simp only [Option.some.injEq, AV.v.injEq, AV.own.injEq, AV.list.injEq, Value.int.injEq, Value.bool.injEq, true_and, and_true]; first | omega | (simp [List.take_zero, List.flatten_nil]; done)) | (simp [List.take_zero, List.flatten_nil]; done) | (simp [List.take_zero, List.flatten_nil]; omega)) (by (repeat' (first | exact Hp.le_emp _ | exact Hp.le_refl _ | refine Hp.le_upd ?_ ?_)); all_goals (first | rfl | (simp only [go_sem]; first | rfl | (refine cellsE ?_ ?_ <;> (simp [List.take_zero, List.flatten_nil])) | (simp [List.take_zero, List.flatten_nil]))))) ?_
  · exact ⟨Nat.zero_le _, fun j h => absurd h (Nat.not_lt_zero _)⟩
  intro k hk
  have hb := flat_bound (ws.take k) fun j hj => by
    rw [List.length_take] at hj
    rw [show (ws.take k).getD j [] = ws.getD j [] by simp [List.getD_eq_getElem?_getD, List.getElem?_take, show j < k by omega]]
    exact hk.2 j (by omega)
  rw [List.length_take] at hb
  have h4 := flat_snoc ws k
  have h6 := hall k
  repeat' (first | refine awp_seqK fun K hK => ?_ | (refine awp_regionK 268698685 rfl ?_; simp only [List.map_cons, List.map_nil]; simp (maxSteps := 1000000) (dsimp := false) (implicitDefEqProofs := false) (disch := omega) only [wrap64, go_sem]) | (refine awp_regionQK 268698685 (by kernel_rfl) (by kernel_rfl) (by kernel_rfl) ?_; simp only [List.map_cons, List.map_nil]; simp (maxSteps := 1000000) (dsimp := false) (implicitDefEqProofs := false) (disch := omega) only [wrap64, go_sem]) | refine awp_block ?_ | (refine awp_skip ?_; simp only [go_sem]) | (refine awp_exit ?_; simp only [go_sem]) | (refine awp_ret ?_; try simp only [go_sem]) | (refine awp_condP rfl ?_; try simp only [go_sem]) | (refine BrP.mk (fun h => ?_) (fun h => ?_) <;> try simp (dsimp := false) (disch := omega) only [wrap64]) | (refine Br.mk (fun h => ?_) (fun h => ?_) <;> try simp (dsimp := false) (disch := omega) only [wrap64]) | refine Ob.mk (by first | omega | (intro _ _; rfl) | trivial | (intros; trivial) | assumption | (intro i hi; have h0 : i = 0 := (by omega); subst h0; first | rfl | trivial) | (intro i hi; have h0 : i = 0 ∨ i = 1 := (by omega); rcases h0 with rfl | rfl <;> rfl) | (intro i hi; have h0 : i = 0 ∨ i = 1 ∨ i = 2 := (by omega); rcases h0 with rfl | rfl | rfl <;> rfl)) ?_ | ((first | ((first | refine atF (f := 60) ?_ | refine atQ (f := 60) ?_); (first | (refine cV (hac := isWord_ok (ws.getD k [])) (hK := ?_)) | (refine cQV (hac := isWord_ok (ws.getD k [])) (hK := ?_))))); simp (maxSteps := 1000000) (dsimp := false) (implicitDefEqProofs := false) (disch := omega) only [wrap64, go_sem]) | apply_assumption -exfalso -symm)
  all_goals (first | (show endQ _ _ _ _ _ _ _; (repeat (rename (∀ (A : Fr) (H : Hp), AWP _ _ _ _ A H → _) => hK; clear hK)); (repeat (rename (Fr → Hp → Prop) => K; clear K))) | (show Exists _; (repeat (rename (∀ (A : Fr) (H : Hp), AWP _ _ _ _ A H → _) => hK; clear hK)); (repeat (rename (Fr → Hp → Prop) => K; clear K))) | skip)
  · have h5 := h4 (by omega)
    refine ⟨k + 1, ?_, ?_, Sub.toL (by simp only [go_sem] <;> first | trivial | (simp only [Option.some.injEq, AV.v.injEq, AV.own.injEq, AV.list.injEq, Value.int.injEq, Value.bool.injEq, true_and, and_true]; first | omega | (simp [h5]; done)) | (simp [h5]; done) | (simp [h5]; omega)) (by (repeat' (first | exact Hp.le_emp _ | exact Hp.le_refl _ | refine Hp.le_upd ?_ ?_)); all_goals (first | rfl | (simp only [go_sem]; first | rfl | (refine cellsE ?_ ?_ <;> (simp [h5])) | (simp [h5]))))⟩
    · refine ⟨by omega, fun j hj => ?_⟩
      by_cases e : j = k
      · subst e; assumption
      · exact hk.2 j (by omega)
    · omega
  · (first | refine end_retIB' rfl rfl rfl rfl ?_ (by decide) rfl rfl | refine end_retIB_nil' rfl rfl rfl ?_ (by decide) rfl)
    unfold joinP
    rw [if_neg]
    · rfl
    rintro ⟨h1, _⟩
    exact absurd (h1 k (by omega)) (by assumption)
  · (first | refine end_retIB' rfl rfl rfl rfl ?_ (by decide) rfl rfl | refine end_retIB_nil' rfl rfl rfl ?_ (by decide) rfl)
    unfold joinP
    rw [if_neg]
    · rfl
    rintro ⟨_, _⟩
    have e : k = ws.length := by omega
    subst e
    rw [List.take_length] at *
    omega
  · have e : k = ws.length := by omega
    subst e
    rw [List.take_length] at *
    (first | refine end_retIB' rfl rfl rfl rfl ?_ (by decide) rfl rfl | refine end_retIB_nil' rfl rfl rfl ?_ (by decide) rfl)
    unfold joinP
    rw [if_pos ⟨hk.2, by omega⟩]
theorem isW_inv {w : List Int} (h : isW 8 w) : isW 8 (inv w) := by
  refine ⟨by rw [inv_length]; exact h.1, fun j hj => ?_⟩
  rw [inv_length] at hj
  have h1 := h.2 (w.length - 1 - j) (by omega)
  have e : (inv w).getD j 0 = -(w.getD (w.length - 1 - j) 0) := by
    unfold inv
    rw [List.getD_eq_getElem?_getD, List.getElem?_reverse (by simpa using hj), List.getElem?_map, List.length_map, List.getD_eq_getElem?_getD, List.getElem?_eq_getElem (show w.length - 1 - j < w.length by omega)]
    rfl
  unfold isL at *
  rw [e]; omega
theorem joinP_bad {ws : List (List Int)} {j : Nat} (hj : j < ws.length) (h : ¬ isW 8 (ws.getD j [])) : joinP ws = ([], false) := if_neg fun h2 => h (h2.1 j hj)
theorem joinP_bad0 {a : List Int} {ws : List (List Int)} (h : ¬ isW 8 a) : joinP (a :: ws) = ([], false) := joinP_bad (j := 0) (by simp) h
theorem joinP_bad1 {a b : List Int} {ws : List (List Int)} (h : ¬ isW 8 b) : joinP (a :: b :: ws) = ([], false) := joinP_bad (j := 1) (by simp) h
/-- The commutator of two words, the conjugate of one. -/
def commP (a b : List Int) : List Int × Bool := joinP [a, b, inv a, inv b]
theorem bd4 {a b c e : List Int} (ha : a.length ≤ 1048576) (hb : b.length ≤ 1048576) (hc : c.length ≤ 1048576) (he : e.length ≤ 1048576) : ∀ j, ([a, b, c, e].getD j []).length ≤ 1048576 := fun j => by
  match j with
  | 0 => exact ha
  | 1 => exact hb
  | 2 => exact hc
  | 3 => exact he
  | j + 4 => exact Nat.zero_le _
theorem specCommutator_ok (a b : List Int) (ha : a.length ≤ 1048576) (hb : b.length ≤ 1048576) (d : Nat) : AC Tryd.prog 26 [ints a, ints b] Hp.emp (fun _ => false) (retIB d (commP a b).1 (commP a b).2) := by
  have h1 := inv_length a
  have h2 := inv_length b
  refine ac_of_awp (N := ⟨_, fun _ => false, fun _ _ => rfl, true⟩) Tryd.func26 rfl (by kernel_rfl) Tryd.ntmps26 (by simp) ?_
  simp only [argsFr, List.zipIdx_cons, List.zipIdx_nil, go_sem]
  repeat' (first | refine awp_seqK fun K hK => ?_ | (refine awp_regionK 8243 rfl ?_; simp only [List.map_cons, List.map_nil]; simp (maxSteps := 1000000) (dsimp := false) (implicitDefEqProofs := false) (disch := omega) only [wrap64, go_sem]) | (refine awp_regionQK 8243 (by kernel_rfl) (by kernel_rfl) (by kernel_rfl) ?_; simp only [List.map_cons, List.map_nil]; simp (maxSteps := 1000000) (dsimp := false) (implicitDefEqProofs := false) (disch := omega) only [wrap64, go_sem]) | refine awp_block ?_ | (refine awp_skip ?_; simp only [go_sem]) | (refine awp_exit ?_; simp only [go_sem]) | (refine awp_ret ?_; try simp only [go_sem]) | (refine awp_condP rfl ?_; try simp only [go_sem]) | (refine BrP.mk (fun h => ?_) (fun h => ?_) <;> try simp (dsimp := false) (disch := omega) only [wrap64]) | (refine Br.mk (fun h => ?_) (fun h => ?_) <;> try simp (dsimp := false) (disch := omega) only [wrap64]) | refine Ob.mk (by first | omega | (intro _ _; rfl) | trivial | (intros; trivial) | assumption | (intro i hi; have h0 : i = 0 := (by omega); subst h0; first | rfl | trivial) | (intro i hi; have h0 : i = 0 ∨ i = 1 := (by omega); rcases h0 with rfl | rfl <;> rfl) | (intro i hi; have h0 : i = 0 ∨ i = 1 ∨ i = 2 := (by omega); rcases h0 with rfl | rfl | rfl <;> rfl)) ?_ | ((first | ((first | refine atF (f := 60) ?_ | refine atQ (f := 60) ?_); (first | (refine cV (hac := isWord_ok a) (hK := ?_)) | (refine cQV (hac := isWord_ok a) (hK := ?_)))) | ((first | refine atF (f := 60) ?_ | refine atQ (f := 60) ?_); (first | (refine cV (hac := isWord_ok b) (hK := ?_)) | (refine cQV (hac := isWord_ok b) (hK := ?_)))) | ((first | refine atF (f := 62) ?_ | refine atQ (f := 62) ?_); (first | (refine cFI (hac := invertWord_okW a (by assumption) 41) (hK := ?_)) | (refine cQI (hac := invertWord_okW a (by assumption) 41) (hK := ?_)))) | ((first | refine atF (f := 62) ?_ | refine atQ (f := 62) ?_); (first | (refine cFI (hac := invertWord_okW b (by assumption) 42) (hK := ?_)) | (refine cQI (hac := invertWord_okW b (by assumption) 42) (hK := ?_)))) | ((first | refine atF (f := 61) ?_ | refine atQ (f := 61) ?_); refine cIB (hfit := FitsL.cons (fits_lit4 rfl trivial) .nil) (hac := specConcatWords_ok [a, b, inv a, inv b] (by simp) (bd4 ha hb (by omega) (by omega)) 40) (hK := ?_))); simp (maxSteps := 1000000) (dsimp := false) (implicitDefEqProofs := false) (disch := omega) only [wrap64, go_sem]) | apply_assumption -exfalso -symm)
  all_goals (first | (show endQ _ _ _ _ _ _ _; (repeat (rename (∀ (A : Fr) (H : Hp), AWP _ _ _ _ A H → _) => hK; clear hK)); (repeat (rename (Fr → Hp → Prop) => K; clear K))) | (show Exists _; (repeat (rename (∀ (A : Fr) (H : Hp), AWP _ _ _ _ A H → _) => hK; clear hK)); (repeat (rename (Fr → Hp → Prop) => K; clear K))) | skip)
  · (first | refine end_retIB' rfl rfl rfl rfl ?_ (by decide) rfl rfl | refine end_retIB_nil' rfl rfl rfl ?_ (by decide) rfl)
    rfl
  all_goals
    (first | refine end_retIB' rfl rfl rfl rfl ?_ (by decide) rfl rfl | refine end_retIB_nil' rfl rfl rfl ?_ (by decide) rfl)
    unfold commP
    first
    | (rw [joinP_bad0 (by assumption)]; rfl)
    | (rw [joinP_bad1 (by assumption)]; rfl)
def invP (w : List Int) : List Int := if isW 8 w then inv w else []
theorem specInvertWord_ok (w : List Int) (d : Nat) : AC Tryd.prog 29 [ints w] Hp.emp (fun _ => false) (retI d (invP w)) := by
  refine ac_of_awp (N := ⟨_, fun _ => false, fun _ _ => rfl, true⟩) Tryd.func29 rfl (by kernel_rfl) Tryd.ntmps29 (by simp) ?_
  simp only [argsFr, List.zipIdx_cons, List.zipIdx_nil, go_sem]
  repeat' (first | refine awp_seqK fun K hK => ?_ | (refine awp_regionK 37 rfl ?_; simp only [List.map_cons, List.map_nil]; simp (maxSteps := 1000000) (dsimp := false) (implicitDefEqProofs := false) (disch := omega) only [wrap64, go_sem]) | (refine awp_regionQK 37 (by kernel_rfl) (by kernel_rfl) (by kernel_rfl) ?_; simp only [List.map_cons, List.map_nil]; simp (maxSteps := 1000000) (dsimp := false) (implicitDefEqProofs := false) (disch := omega) only [wrap64, go_sem]) | refine awp_block ?_ | (refine awp_skip ?_; simp only [go_sem]) | (refine awp_exit ?_; simp only [go_sem]) | (refine awp_ret ?_; try simp only [go_sem]) | (refine awp_condP rfl ?_; try simp only [go_sem]) | (refine BrP.mk (fun h => ?_) (fun h => ?_) <;> try simp (dsimp := false) (disch := omega) only [wrap64]) | (refine Br.mk (fun h => ?_) (fun h => ?_) <;> try simp (dsimp := false) (disch := omega) only [wrap64]) | refine Ob.mk (by first | omega | (intro _ _; rfl) | trivial | (intros; trivial) | assumption | (intro i hi; have h0 : i = 0 := (by omega); subst h0; first | rfl | trivial) | (intro i hi; have h0 : i = 0 ∨ i = 1 := (by omega); rcases h0 with rfl | rfl <;> rfl) | (intro i hi; have h0 : i = 0 ∨ i = 1 ∨ i = 2 := (by omega); rcases h0 with rfl | rfl | rfl <;> rfl)) ?_ | ((first | ((first | refine atF (f := 60) ?_ | refine atQ (f := 60) ?_); (first | (refine cV (hac := isWord_ok w) (hK := ?_)) | (refine cQV (hac := isWord_ok w) (hK := ?_)))) | ((first | refine atF (f := 62) ?_ | refine atQ (f := 62) ?_); (first | (refine cI (hac := invertWord_okW w (by assumption) 41) (hK := ?_)) | (refine cQI (hac := invertWord_okW w (by assumption) 41) (hK := ?_))))); simp (maxSteps := 1000000) (dsimp := false) (implicitDefEqProofs := false) (disch := omega) only [wrap64, go_sem]) | apply_assumption -exfalso -symm)
  all_goals (first | (show endQ _ _ _ _ _ _ _; (repeat (rename (∀ (A : Fr) (H : Hp), AWP _ _ _ _ A H → _) => hK; clear hK)); (repeat (rename (Fr → Hp → Prop) => K; clear K))) | (show Exists _; (repeat (rename (∀ (A : Fr) (H : Hp), AWP _ _ _ _ A H → _) => hK; clear hK)); (repeat (rename (Fr → Hp → Prop) => K; clear K))) | skip)
  all_goals
    (first | refine end_retI' rfl rfl rfl ?_ rfl rfl | refine end_retI_nil' rfl rfl ?_ rfl)
    unfold invP
    first
    | (rw [if_pos (by assumption)]; first | done | rfl)
    | (rw [if_neg (by assumption)]; first | done | rfl)
end Go.Proofs.YticbabpajligbaaDoor
end
/- slices.Chunk: the iterator's contract, on the kit's own level; the call. -/
section
namespace Go.Proofs.YticbabpajligbaaDoor
open Go.RowKit Go.Shelf Go.Av
set_option linter.unusedVariables false
set_option linter.unusedSimpArgs false
attribute [local go_sem] Oper.semAt_some

theorem drew_grown (w : World) : w.grownBy w.drew none := ⟨rfl, rfl, rfl, Nat.le_refl _, fun _ _ _ => rfl⟩
set_option maxRecDepth 100000 in
set_option maxHeartbeats 2000000 in
theorem chunk1_in (n : Nat) (hn : 2 ≤ n) (l B1 s1 B2 s2 b off len cap : Nat) (hlen : 1 ≤ len ∧ len ≤ 1048576) (hcap : len ≤ cap) (J Jx : List Nat → World → Prop) (W : World) (hJa : AbidesFrom W.heap.size J)
    (hY : ∀ pre x W, J pre W → pre.length < nch 99 len → YieldAt (FF none) (n - 1) Tryd.prog l #[chV 99 b off len x] W fun e W' =>
      (e = .returned (.bool true) ∧ J (pre ++ [x]) W' ∧ Kc B1 B2 W W') ∨ (e = .returned (.bool false) ∧ Jx (pre ++ [x]) W'))
    (hc1 : W.cell? ⟨B1, s1, none⟩ = some (.slice (some ⟨b, off, none⟩) len cap)) (hc2 : W.cell? ⟨B2, s2, none⟩ = some (.int .i64 (99 : Nat))) (h0 : J [] W) :
    CallsIn (FF none) n Tryd.prog 74 #[.func (.yield l) #[] #[], .pointer (some ⟨B1, s1, none⟩), .pointer (some ⟨B2, s2, none⟩)] W fun e W' => (∃ v, e = .returned v) ∧
      ((∃ ys, ys = List.range (nch 99 len) ∧ J ys W') ∨ (∃ pre, True ∧ Jx pre W')) := by
  refine callsIn_of_wp Tryd.func74 rfl trivial ?_ rfl
  simp only [Tryd.ntmps74, List.size_toArray, List.length_cons, List.length_nil, Nat.reduceAdd, Nat.reduceSub, Array.replicate_succ, Array.replicate_zero, List.push_toArray, List.append_toArray, List.nil_append, List.cons_append]
  gi_wp2
  gi_loopw [4] (fun i wr => ∃ r : Nat, r ≤ nch 99 len ∧ i = .int .i64 ((99 * r : Nat) : Int) ∧ J (List.range r) wr ∧ Kc B1 B2 W wr)
    (fun i _ => (nch 99 len * 99 + 99 - intOf i).toNat)
  case atStart => exact ⟨0, Nat.zero_le _, rfl, h0, rfl, rfl⟩
  case round =>
    obtain ⟨r, hr, rfl, hJs, hk1, hk2⟩ := hrel
    have hd1 : wr.cell? ⟨B1, s1, none⟩ = some (.slice (some ⟨b, off, none⟩) len cap) := (World.cell?_of_block (w := W) (a := ⟨B1, s1, none⟩) hk1).trans hc1
    have hd2 : wr.cell? ⟨B2, s2, none⟩ = some (.int .i64 (99 : Nat)) := (World.cell?_of_block (w := W) (a := ⟨B2, s2, none⟩) hk2).trans hc2
    by_cases hlt : 99 * r < len
    · have hrl : r < nch 99 len := by unfold nch; omega
      gi_wp2
      gi_region
      have hJ2 : J (List.range r) wr.drew := hJa _ wr _ none hJs (drew_grown wr) (fun r e => by cases e)
      obtain ⟨m, hm⟩ : ∃ m, m = min 99 (len - 99 * r) := ⟨_, rfl⟩
      have e5 : (if ((len - 99 * r : Nat) : Int) < 99 then ((len - 99 * r : Nat) : Int) else 99) = (m : Int) := by split <;> omega
      first | rw [e5] | rw [show min 99 ((len - 99 * r : Nat) : Int) = (m : Int) by omega]
      obtain ⟨fn, tmps, assign, body, hy, hR⟩ := hY _ r wr.drew hJ2 (by rw [List.length_range]; exact hrl)
      have hch : chV 99 b off len r = .slice (some ⟨b, off + 99 * r, none⟩) m m := by unfold chV; rw [← hm]
      rw [hch] at hy
      have hd3 : wr.drew.cell? ⟨B1, s1, none⟩ = some (.slice (some ⟨b, off, none⟩) len cap) := hd1
      have hd4 : wr.drew.cell? ⟨B2, s2, none⟩ = some (.int .i64 (99 : Nat)) := hd2
      have hm2 : m ≤ 99 ∧ 99 * r + m ≤ len ∧ 1 ≤ m ∧ (m < 99 → 99 * r + m = len) := by omega
      clear hch e5 hm
      gi_wp2
      refine ⟨fun _ => (by omega), hR.mono ?_⟩
      rintro e W3 (⟨rfl, hJ3, hk3⟩ | ⟨rfl, hJx3⟩)
      · have hd5 : W3.cell? ⟨B1, s1, none⟩ = some (.slice (some ⟨b, off, none⟩) len cap) := (World.cell?_of_block (w := wr.drew) (a := ⟨B1, s1, none⟩) hk3.1).trans hd3
        have hd6 : W3.cell? ⟨B2, s2, none⟩ = some (.int .i64 (99 : Nat)) := (World.cell?_of_block (w := wr.drew) (a := ⟨B2, s2, none⟩) hk3.2).trans hd4
        gi_wp2
        refine ⟨⟨r + 1, hrl, by congr 1 <;> omega, by rw [List.range_succ]; exact hJ3, hk3.1.trans hk1, hk3.2.trans hk2⟩, ?_⟩
        simp only [intOf]
        omega
      · gi_wp2
        refine bodyPost_ret (results_none rfl _ _ _) rfl ?_
        exact ⟨⟨_, rfl⟩, .inr ⟨_, trivial, hJx3⟩⟩
    · gi_wp2
      have hre : r = nch 99 len := by unfold nch at hr ⊢; omega
      subst hre
      go_end0
      exact ⟨⟨_, rfl⟩, .inl ⟨_, rfl, hJs⟩⟩
theorem chunk_it : ChunkIt Tryd.prog 74 99 := fun n B1 s1 B2 s2 b off len cap w hn hc1 hc2 h1 hcap h2 l J Jx W hW hJa _ hY h0 =>
  chunk1_in n hn l B1 s1 B2 s2 b off len cap ⟨h1, h2⟩ hcap J Jx W hJa hY ((hW.cell (p := ⟨B1, s1, none⟩) (World.block_lt_of_cell? w _ hc1)).trans hc1) ((hW.cell (p := ⟨B2, s2, none⟩) (World.block_lt_of_cell? w _ hc2)).trans hc2) h0
end Go.Proofs.YticbabpajligbaaDoor
end
/- slices.Chunk: the call. -/
section
namespace Go.Proofs.YticbabpajligbaaDoor
open Go.Av
set_option linter.unusedSimpArgs false
set_option linter.unusedVariables false
attribute [local irreducible] AWP CallG Ob Br BrP Go.Av.Sub endQ AOps OpV AC thenA blkA opsVC opVC withA withArgs opsQ opQ CallQ withA2 withArgs2
/-- What a call of Chunk leaves: a function over two boxes. -/
def postCk (r : List Int) : AV → Hp → Prop := fun a H => a = .clo 74 2 (vecF [.ref 2 0, .ref 3 0]) ∧ H = (Hp.emp.upd 2 (.cells 1 fun _ => ints r)).upd 3 (.cells 1 fun _ => .v (.int .i64 (99)))
theorem chunk_ok (r : List Int) : AC Tryd.prog 41 [ints r, .v (.int .i64 (99))] Hp.emp (fun _ => false) (postCk r) := by
  refine ac_of_awp (N := ⟨_, fun _ => false, fun _ _ => rfl, true⟩) Tryd.func41 rfl (by kernel_rfl) Tryd.ntmps41 (by simp) ?_
  simp only [argsFr, List.zipIdx_cons, List.zipIdx_nil, go_sem]
  repeat' (first | refine awp_seqK fun K hK => ?_ | (refine awp_regionK 95 rfl ?_; simp only [List.map_cons, List.map_nil]; simp (maxSteps := 1000000) (dsimp := false) (implicitDefEqProofs := false) (disch := omega) only [wrap64, go_sem]) | (refine awp_regionQK 95 (by kernel_rfl) (by kernel_rfl) (by kernel_rfl) ?_; simp only [List.map_cons, List.map_nil]; simp (maxSteps := 1000000) (dsimp := false) (implicitDefEqProofs := false) (disch := omega) only [wrap64, go_sem]) | refine awp_block ?_ | (refine awp_skip ?_; simp only [go_sem]) | (refine awp_exit ?_; simp only [go_sem]) | (refine awp_ret ?_; try simp only [go_sem]) | (refine awp_condP rfl ?_; try simp only [go_sem]) | (refine BrP.mk (fun h => ?_) (fun h => ?_) <;> try simp (dsimp := false) (disch := omega) only [wrap64]) | (refine Br.mk (fun h => ?_) (fun h => ?_) <;> try simp (dsimp := false) (disch := omega) only [wrap64]) | refine Ob.mk (by first | omega | (intro _ _; rfl) | trivial | (intros; trivial) | assumption | (intro i hi; have h0 : i = 0 := (by omega); subst h0; first | rfl | trivial) | (intro i hi; have h0 : i = 0 ∨ i = 1 := (by omega); rcases h0 with rfl | rfl <;> rfl) | (intro i hi; have h0 : i = 0 ∨ i = 1 ∨ i = 2 := (by omega); rcases h0 with rfl | rfl | rfl <;> rfl)) ?_ | apply_assumption -exfalso -symm)
  all_goals (first | (show endQ _ _ _ _ _ _ _; (repeat (rename (∀ (A : Fr) (H : Hp), AWP _ _ _ _ A H → _) => hK; clear hK)); (repeat (rename (Fr → Hp → Prop) => K; clear K))) | (show Exists _; (repeat (rename (∀ (A : Fr) (H : Hp), AWP _ _ _ _ A H → _) => hK; clear hK)); (repeat (rename (Fr → Hp → Prop) => K; clear K))) | skip)
  · omega
  · exact end_post rfl rfl (Hp.le_refl _) ⟨rfl, rfl⟩
def ckB (h : Nat) : Bool := h == 2 || h == 3
theorem callCk {P : Program} {N : Cx} {A : Fr} {H : Hp} {f : FuncId} {gf : FuncId} {args : List AV} {F1 F2 : Nat → AV} {K : AV → Fr → Hp → Prop} (hac : AC P f args Hp.emp (fun _ => false) (fun a H => a = .clo gf 2 (vecF [.ref 2 0, .ref 3 0]) ∧ H = (Hp.emp.upd 2 (.cells 1 F1)).upd 3 (.cells 1 F2))) (h1 : ∀ p, scF p F1 = F1) (h2 : ∀ p, scF p F2 = F2) (hpn : ∀ h, N.pn h = true → ckB h = false)
    (hK : K (.clo gf 2 (vecF [.ref 2 0, .ref 3 0])) (A.scrub ckB) (((H.scrub ckB).upd 2 (.cells 1 F1)).upd 3 (.cells 1 F2))) : CallG P N f args A H K := by
  refine callG_of hac ckB false (Hp.le_emp _) (FitsL.refl _) (fun _ => rfl) (fun h hn _ => absurd rfl hn) hpn ?_
  rintro r H' ⟨rfl, rfl⟩
  have live : ∀ h, ((Hp.emp.upd 2 (.cells 1 F1)).upd 3 (.cells 1 F2)) h ≠ none → ckB h = true := fun h hn => by
    unfold Hp.upd at hn
    by_cases e : h = 3
    · subst e; rfl
    · rw [if_neg e] at hn
      by_cases e2 : h = 2
      · subst e2; rfl
      · rw [if_neg e2] at hn; exact absurd rfl hn
  refine ⟨fun h hn _ => live h hn, by simp, ?_⟩
  have l2 : liveB ((Hp.emp.upd 2 (.cells 1 F1)).upd 3 (.cells 1 F2)) 2 = true := by simp [liveB, Hp.upd]
  have l3 : liveB ((Hp.emp.upd 2 (.cells 1 F1)).upd 3 (.cells 1 F2)) 3 = true := by simp [liveB, Hp.upd]
  have e1 : (AV.clo gf 2 (vecF [.ref 2 0, .ref 3 0])).scrub (fun h => !liveB ((Hp.emp.upd 2 (.cells 1 F1)).upd 3 (.cells 1 F2)) h) = .clo gf 2 (vecF [.ref 2 0, .ref 3 0]) := by
    simp only [scrub_clo, scF_vecF, List.map_cons, List.map_nil, scrub_ref, l2, l3, Bool.not_true, Bool.false_eq_true, if_false]
  have e2 : Hp.over (((Hp.emp.upd 2 (.cells 1 F1)).upd 3 (.cells 1 F2)).scrub fun h => !liveB ((Hp.emp.upd 2 (.cells 1 F1)).upd 3 (.cells 1 F2)) h) (H.scrub ckB) Hp.emp = ((H.scrub ckB).upd 2 (.cells 1 F1)).upd 3 (.cells 1 F2) := by
    rw [Hp.scrub_upd, Hp.scrub_upd, Blk.scrub_cells, Blk.scrub_cells, h1, h2]
    funext h
    unfold Hp.over Hp.upd
    by_cases e : h = 3
    · simp only [if_pos e]
    · simp only [if_neg e]
      by_cases e2 : h = 2
      · simp only [if_pos e2]
      · simp only [if_neg e2]
        simp [Hp.scrub, Hp.emp]
  rw [e1, e2]; exact hK
end Go.Proofs.YticbabpajligbaaDoor
end
/- Words cut into tokens: runs of at most 99 letters; plain. -/
section
namespace Go.Wd
set_option linter.unusedVariables false
/-- From place a on there are n letters alike, at most 99, and no more unless n is 99. -/
structure RL (w : List Int) (a n : Nat) : Prop where
  le : n ≤ 99
  al : ∀ i, i < n → a + i < w.length ∧ w.getD (a + i) 0 = w.getD a 0
  st : n < 99 → a + n < w.length → w.getD (a + n) 0 ≠ w.getD a 0
/-- The tokens of a word from place a on. -/
def Tk (w : List Int) : Nat → List (Int × Nat) → Prop
  | a, [] => a = w.length
  | a, (x, n) :: ts => a < w.length ∧ w.getD a 0 = x ∧ 1 ≤ n ∧ RL w a n ∧ Tk w (a + n) ts
/-- A run cut into parts of at most 99. -/
def chs (n : Nat) : List Nat := (List.range (Go.Av.nch 99 n)).map fun k => min 99 (n - 99 * k)
theorem chs_pos {n : Nat} (h : 0 < n) : chs n = min 99 n :: chs (n - 99) := by
  unfold chs
  have e : Go.Av.nch 99 n = Go.Av.nch 99 (n - 99) + 1 := by unfold Go.Av.nch; omega
  rw [e, List.range_succ_eq_map, List.map_cons, List.map_map]
  congr 1
  refine List.map_congr_left fun k _ => ?_
  simp only [Function.comp_apply]
  omega
theorem tk_run {w : List Int} {x : Int} {ts : List (Int × Nat)} : ∀ (n a : Nat), (∀ i, i < n → a + i < w.length ∧ w.getD (a + i) 0 = x) → (a + n < w.length → w.getD (a + n) 0 ≠ x) → Tk w (a + n) ts → Tk w a ((chs n).map (fun m => (x, m)) ++ ts) := by
  intro n
  induction n using Nat.strongRecOn with
  | _ n ih =>
    intro a h1 h2 h3
    by_cases h0 : n = 0
    · subst h0; exact h3
    · rw [chs_pos (by omega)]
      have ha := h1 0 (by omega)
      rw [Nat.add_zero] at ha
      refine ⟨ha.1, ha.2, by omega, ⟨by omega, fun i hi => ⟨(h1 i (by omega)).1, (h1 i (by omega)).2.trans ha.2.symm⟩, fun hl hlt => ?_⟩, ?_⟩
      · have e : min 99 n = n := by omega
        rw [e] at hlt ⊢
        rw [ha.2]; exact h2 hlt
      · by_cases h99 : n ≤ 99
        · have e : min 99 n = n := by omega
          have e2 : n - 99 = 0 := by omega
          rw [e, e2]; exact h3
        · have e : min 99 n = 99 := by omega
          rw [e]
          refine ih (n - 99) (by omega) (a + 99) (fun i hi => ?_) (fun h => ?_) ?_
          · have := h1 (99 + i) (by omega)
            rwa [show a + (99 + i) = a + 99 + i by omega] at this
          · rw [show a + 99 + (n - 99) = a + n by omega] at h ⊢; exact h2 h
          · rw [show a + 99 + (n - 99) = a + n by omega]; exact h3
/-- The tokens of the runs from run j on. -/
def tkR (w : List Int) (j : Nat) : List (Int × Nat) := ((runs id w).drop j).flatMap fun r => (chs r.length).map fun m => (r.getD 0 0, m)
theorem tk_runs (w : List Int) : ∀ (d j : Nat), j + d = (runs id w).length → Tk w (offs (runs id w) j) (tkR w j)
  | 0, j, h => by
    have e : tkR w j = [] := by unfold tkR; rw [List.drop_eq_nil_of_le (by omega)]; rfl
    rw [e]
    show _ = _
    rw [show j = (runs id w).length by omega, offs_all, runs_flat]
  | d + 1, j, h => by
    have hj : j < (runs id w).length := by omega
    obtain ⟨h1, h2, h3⟩ := run_end hj
    have e : tkR w j = (chs ((runs id w).getD j []).length).map (fun m => (((runs id w).getD j []).getD 0 0, m)) ++ tkR w (j + 1) := by
      unfold tkR
      rw [List.drop_eq_getElem_cons hj, List.flatMap_cons]
      simp [List.getD_eq_getElem?_getD, hj]
    have h0 := h1 0 h3
    rw [Nat.add_zero] at h0
    rw [e]
    rw [offs_succ hj] at h2
    refine tk_run _ _ (fun i hi => ⟨(h1 i hi).1, ?_⟩) (fun h => ?_) ?_
    · have := (h1 i hi).2.2
      rw [id, id] at this
      rw [this, h0.2.1]
    · have := h2 h
      rw [id, id] at this
      rw [← h0.2.1]; exact this
    · rw [← offs_succ hj]; exact tk_runs w d (j + 1) (by omega)
/-- The tokens of a word. -/
def tks (w : List Int) : List (Int × Nat) := tkR w 0
theorem tks_tk (w : List Int) : Tk w 0 (tks w) := tk_runs w (runs id w).length 0 (Nat.zero_add _)
end Go.Wd
end
/- FormatWord, by the program. -/
section
namespace Go.Proofs.YticbabpajligbaaDoor
open Go.Av
set_option linter.unusedSimpArgs false
set_option linter.unusedVariables false
attribute [local irreducible] AWP CallG Ob Br BrP Go.Av.Sub endQ AOps OpV AC thenA blkA opsVC opVC withA withArgs opsQ opQ CallQ withA2 withArgs2
open Go.Nt (jn jnS)
open Go.Wd (tks runs chs)
/-- A token's text. -/
def tkT (names : ByteArray) (x : Int) (n : Nat) : ByteArray :=
  let s := names.extract (max x (0 - x) - 1).toNat (max x (0 - x)).toNat
  let t := if 1 < n then s ++ fmS n else s
  if x < 0 then t ++ ⟨#[39]⟩ else t
theorem eqLetters_ok (x y : Int) : AC Tryd.prog 40 [.v (.int .i64 (x)), .v (.int .i64 (y))] Hp.emp (fun _ => false) (retV (.v (.bool (Go.Wd.kf id x y)))) := by
  refine ac_of_awp (N := ⟨_, fun _ => false, fun _ _ => rfl, true⟩) Tryd.func40 rfl (by kernel_rfl) Tryd.ntmps40 (by simp) ?_
  simp only [argsFr, List.zipIdx_cons, List.zipIdx_nil, go_sem]
  repeat' (first | refine awp_seqK fun K hK => ?_ | (refine awp_regionK 19 rfl ?_; simp only [List.map_cons, List.map_nil]; simp (maxSteps := 1000000) (dsimp := false) (implicitDefEqProofs := false) (disch := omega) only [wrap64, go_sem]) | (refine awp_regionQK 19 (by kernel_rfl) (by kernel_rfl) (by kernel_rfl) ?_; simp only [List.map_cons, List.map_nil]; simp (maxSteps := 1000000) (dsimp := false) (implicitDefEqProofs := false) (disch := omega) only [wrap64, go_sem]) | refine awp_block ?_ | (refine awp_skip ?_; simp only [go_sem]) | (refine awp_exit ?_; simp only [go_sem]) | (refine awp_ret ?_; try simp only [go_sem]) | (refine awp_condP rfl ?_; try simp only [go_sem]) | (refine BrP.mk (fun h => ?_) (fun h => ?_) <;> try simp (dsimp := false) (disch := omega) only [wrap64]) | (refine Br.mk (fun h => ?_) (fun h => ?_) <;> try simp (dsimp := false) (disch := omega) only [wrap64]) | refine Ob.mk (by first | omega | (intro _ _; rfl) | trivial | (intros; trivial) | assumption | (intro i hi; have h0 : i = 0 := (by omega); subst h0; first | rfl | trivial) | (intro i hi; have h0 : i = 0 ∨ i = 1 := (by omega); rcases h0 with rfl | rfl <;> rfl) | (intro i hi; have h0 : i = 0 ∨ i = 1 ∨ i = 2 := (by omega); rcases h0 with rfl | rfl | rfl <;> rfl)) ?_ | apply_assumption -exfalso -symm)
  all_goals (first | (show endQ _ _ _ _ _ _ _; (repeat (rename (∀ (A : Fr) (H : Hp), AWP _ _ _ _ A H → _) => hK; clear hK)); (repeat (rename (Fr → Hp → Prop) => K; clear K))) | (show Exists _; (repeat (rename (∀ (A : Fr) (H : Hp), AWP _ _ _ _ A H → _) => hK; clear hK)); (repeat (rename (Fr → Hp → Prop) => K; clear K))) | skip)
  exact end_retV rfl rfl
/-- The texts of the tokens of the first k runs. -/
def tI (names : ByteArray) (rs : List (List Int)) (k : Nat) : List ByteArray := (rs.take k).flatMap fun r => (chs r.length).map fun m => tkT names (r.getD 0 0) m
def fwH (names : ByteArray) (ws : List ByteArray) : Hp := ((Hp.emp.upd 1000002 (.cells 1 fun _ => .v (.string (names)))).upd 1000005 (.cells 1 fun _ => .own 30 0 1 ws.length)).upd 30 (.cells ws.length (cM sv ByteArray.empty ws))
def rhoF (h : Nat) : Option Nat := if h = 1000002 then some 2 else if h = 1000005 then some 5 else none
theorem fwH_ne {names : ByteArray} {ws : List ByteArray} {h : Nat} (hn : fwH names ws h ≠ none) : h = 30 ∨ h = 1000005 ∨ h = 1000002 := by
  unfold fwH Hp.upd at hn
  by_cases e1 : h = 30
  · exact .inl e1
  · rw [if_neg e1] at hn
    by_cases e2 : h = 1000005
    · exact .inr (.inl e2)
    · rw [if_neg e2] at hn
      by_cases e3 : h = 1000002
      · exact .inr (.inr e3)
      · rw [if_neg e3] at hn; exact absurd rfl hn
theorem enterF {N : Cx} {A : Fr} {H : Hp} {names : ByteArray} {i m : Int} {rs : AV} (hr : rs.plain) (h24 : A.get 24 = some (.v (.int .i64 (i)))) (h23 : A.get 23 = some (.v (.int .i64 (m)))) (h22 : A.get 22 = some rs) (h5 : A.get 5 = some (.ref 5 0)) (h2 : A.get 2 = some (.ref 2 0))
    (hB : H 2 = some (.cells 1 fun _ => .v (.string (names)))) (hC : H 5 = some (.cells 1 (zF [.slice none 0 0]))) (hpn : N.pn = fun _ => false) : Sub N A H [(24, .v (.int .i64 (i))), (23, .v (.int .i64 (m))), (22, rs), (5, .ref 1000005 0), (2, .ref 1000002 0)] (fwH names []) := by
  refine Sub.layM rhoF hpn (lay_cons ⟨_, h24, .plain trivial⟩ (lay_cons ⟨_, h23, .plain trivial⟩ (lay_cons ⟨_, h22, .plain hr⟩ (lay_cons ⟨_, h5, .ref rfl⟩ (lay_cons ⟨_, h2, .ref rfl⟩ lay_nil))))) (layF_nil rfl (layF_upd (g := 5) rfl hC (fun i hi => ?_) (layF_upd (g := 2) rfl hB (fun i hi => .plain trivial) layF_emp))) (fun x y k hx hy e1 e2 => ?_)
  · obtain rfl : i = 0 := by omega
    exact .nil rfl
  · have a := fwH_ne hx
    have b := fwH_ne hy
    unfold rhoF at e1 e2
    rcases a with rfl | rfl | rfl <;> rcases b with rfl | rfl | rfl <;> simp at e1 e2 <;> omega
theorem ckB_7 : ckB 7 = false := rfl
theorem ckB_30 : ckB 30 = false := rfl
theorem ckB_A : ckB 1000002 = false := rfl
theorem ckB_B : ckB 1000005 = false := rfl
def pnF (h : Nat) : Bool := h == 1000002 || h == 1000005 || h == 1000007
theorem pnF_low {h : Nat} (hh : h < 65) : pnF h = false := by
  unfold pnF
  simp only [Bool.or_eq_false_iff, beq_eq_false_iff_ne, ne_eq]
  omega
/-- A round's frame: the boxes stay where they are. -/
abbrev N2 : Cx := { n := 65, pn := pnF, low := fun _ hh => pnF_low hh, out := false }
def fwL (names : ByteArray) (ws : List ByteArray) (r : List Int) : Hp := (fwH names ws).upd 1000007 (.cells 1 fun _ => ints r)
def fwA (i m : Int) (rs : AV) : Fr := [(24, .v (.int .i64 (i))), (23, .v (.int .i64 (m))), (22, rs), (5, .ref 1000005 0), (2, .ref 1000002 0), (7, .ref 1000007 0)]
theorem fwL_ne {names : ByteArray} {ws : List ByteArray} {r : List Int} {h : Nat} (hn : fwL names ws r h ≠ none) : h = 30 ∨ h = 1000005 ∨ h = 1000002 ∨ h = 1000007 := by
  unfold fwL at hn
  by_cases e : h = 1000007
  · exact .inr (.inr (.inr e))
  · have : (fwH names ws).upd 1000007 (.cells 1 fun _ => ints r) h = fwH names ws h := if_neg e
    rw [this] at hn
    rcases fwH_ne hn with h | h | h
    · exact .inl h
    · exact .inr (.inl h)
    · exact .inr (.inr (.inl h))
theorem fwL_cells {names : ByteArray} {ws : List ByteArray} {r : List Int} {h : Nat} {B : Blk} (hB : fwL names ws r h = some B) : ∃ n f, B = .cells n f := by
  unfold fwL fwH Hp.upd at hB
  by_cases e0 : h = 1000007
  · rw [if_pos e0] at hB; exact ⟨_, _, (Option.some.inj hB).symm⟩
  · rw [if_neg e0] at hB
    by_cases e1 : h = 30
    · rw [if_pos e1] at hB; exact ⟨_, _, (Option.some.inj hB).symm⟩
    · rw [if_neg e1] at hB
      by_cases e2 : h = 1000005
      · rw [if_pos e2] at hB; exact ⟨_, _, (Option.some.inj hB).symm⟩
      · rw [if_neg e2] at hB
        by_cases e3 : h = 1000002
        · rw [if_pos e3] at hB; exact ⟨_, _, (Option.some.inj hB).symm⟩
        · rw [if_neg e3] at hB; cases hB
def rhoG9 (h : Nat) : Option Nat := if h = 1000007 then some 7 else some h
theorem Fr.all_get {p : AV → Prop} : ∀ (A : Fr), (∀ x ∈ A, p x.2) → ∀ i a, A.get i = some a → p a
  | [], _, i, a, h => by simp [Fr.get] at h
  | (k, b) :: r, hA, i, a, h => by
    simp only [Fr.get] at h
    split at h
    · simp only [Option.some.injEq] at h; subst h; exact hA _ (List.mem_cons_self ..)
    · exact Fr.all_get r (fun x hx => hA x (List.mem_cons_of_mem _ hx)) i a h
theorem fits_chunk {H : Hp} {D : Nat → Prop} (r : List Int) (j : Nat) : Fits H D (chA 99 r.length (cM iv 0 r) j) (ints ((r.drop (99 * j)).take 99)) := by
  have e : ((r.drop (99 * j)).take 99).length = min 99 (r.length - 99 * j) := by rw [List.length_take, List.length_drop]
  unfold ints chA
  rw [e]
  refine .list (fun h => by cases h) (fun i hi => trivial) (fun i hi => .ofEq ?_)
  rw [Nat.mul_one] at hi
  show iv (r.getD (99 * j + i) 0) = iv (((r.drop (99 * j)).take 99).getD i 0)
  congr 1
  simp only [List.getD_eq_getElem?_getD, List.getElem?_take, List.getElem?_drop]
  rw [if_pos (by omega)]
theorem fw_chunks {N : Cx} {id : Nat} {asg : Oper} {body : Code} {Q : Exit → Fr → Hp → Prop} {A : Fr} {H : Hp} {names : ByteArray} {ws : List ByteArray} {r : List Int} {i m : Int} {rs : AV} {F7 : Nat → AV} (T : Nat → ByteArray)
    (hrs : rs.plain) (hrc : ∀ p, rs.scrub p = rs) (hrl : 1 ≤ r.length ∧ r.length ≤ 1048576) (hN : N.n = 65) (hpn : N.pn = fun _ => false) (hout : N.out = true) (hop : asg.op = .assign (.tmp 30)) (had : asg.dst = some 8) (hag : asg.guard = none)
    (h29 : A.get 29 = some (.clo 74 2 (vecF [.ref 2 0, .ref 3 0]))) (h24 : A.get 24 = some (.v (.int .i64 (i)))) (h23 : A.get 23 = some (.v (.int .i64 (m)))) (h22 : A.get 22 = some rs) (h5 : A.get 5 = some (.ref 1000005 0)) (h2 : A.get 2 = some (.ref 1000002 0)) (h7 : A.get 7 = some (.ref 7 0))
    (g2 : H 2 = some (.cells 1 fun _ => ints r)) (g3 : H 3 = some (.cells 1 fun _ => .v (.int .i64 (99)))) (g7 : H 7 = some (.cells 1 F7)) (e7 : F7 0 = ints r) (gA : H 1000002 = some (.cells 1 fun _ => .v (.string (names)))) (gB : H 1000005 = some (.cells 1 fun _ => .own 30 0 1 ws.length)) (gC : H 30 = some (.cells ws.length (cM sv ByteArray.empty ws)))
    (hbody : ∀ (pre : List Nat) (j : Nat), pre.length < nch 99 r.length → AWP Tryd.prog N2 body (fun e A H => e = .normal ∧ Sub N2 A H [] (fwL names (ws ++ (pre ++ [j]).map T) r)) ((8, ints ((r.drop (99 * j)).take 99)) :: fwA i m rs) (fwL names (ws ++ pre.map T) r))
    (hdone : Q .normal (fwA i m rs) (fwL names (ws ++ (List.range (nch 99 r.length)).map T) r)) : AWP Tryd.prog N (.rangeFunc (.tmp 29) #[30] (.region id #[asg] false) body) Q A H := by
  have hsub : Sub N A H ((29, .clo 74 2 (vecF [.ref 2 0, .ref 3 0])) :: fwA i m rs) (((fwL names ws r).upd 2 (.cells 1 fun _ => ints r)).upd 3 (.cells 1 fun _ => .v (.int .i64 (99)))) := by
    refine Sub.layM rhoG9 hpn (lay_cons ⟨_, h29, .clo fun i hi => ?_⟩ (lay_cons ⟨_, h24, .plain trivial⟩ (lay_cons ⟨_, h23, .plain trivial⟩ (lay_cons ⟨_, h22, .plain hrs⟩ (lay_cons ⟨_, h5, .ref rfl⟩ (lay_cons ⟨_, h2, .ref rfl⟩ (lay_cons ⟨_, h7, .ref rfl⟩ lay_nil)))))))
      (layF_upd (g := 3) rfl g3 (fun _ _ => .plain trivial) (layF_upd (g := 2) rfl g2 (fun _ _ => .plain trivial) (layF_upd (g := 7) rfl g7 (fun i hi => ?_) (layF_upd (g := 30) rfl gC (fun _ _ => .plain trivial) (layF_upd (g := 1000005) rfl gB (fun _ _ => .own rfl) (layF_upd (g := 1000002) rfl gA (fun _ _ => .plain trivial) layF_emp)))))) (fun x y k hx hy e1 e2 => ?_)
    · match i, hi with
      | 0, _ => exact .ref rfl
      | 1, _ => exact .ref rfl
    · obtain rfl : i = 0 := by omega
      rw [e7]; exact .plain trivial
    · have live : ∀ x, (((fwL names ws r).upd 2 (.cells 1 fun _ => ints r)).upd 3 (.cells 1 fun _ => .v (.int .i64 (99)))) x ≠ none → x ≠ 7 := fun x hx e => by
        subst e
        exact hx rfl
      have a := live x hx
      have b := live y hy
      unfold rhoG9 at e1 e2
      split at e1 <;> split at e2 <;> simp only [Option.some.injEq] at e1 e2 <;> omega
  refine awp_sub hsub (awp_chunks (N' := N2) (u := 8) (h1 := 2) (o1 := 0) (h2 := 3) (o2 := 0) (nn := false) (len := r.length) (f := cM iv 0 r) (fwA i m rs) (fun pre => fwL names (ws ++ pre.map T) r) chunk_it (by kernel_rfl) hout hN.symm rfl (fun h hh => by rw [hpn] at hh; cases hh) (by rw [hN]; decide) (by rw [hN]; decide) hop had hag rfl rfl rfl rfl (by decide) rfl hrl rfl (by decide) rfl ?_ ?_ ?_ rfl rfl (fun pre h kv hh => by obtain ⟨n, f, e⟩ := fwL_cells hh; cases e) (fun pre j hp => ?_) hdone)
  · exact Fr.sub_get _ _ ⟨rfl, rfl, rfl, rfl, rfl, rfl, trivial⟩
  · refine Fr.all_get _ ?_
    unfold fwA
    simp only [List.forall_mem_cons]
    exact ⟨rfl, rfl, hrc _, rfl, rfl, rfl, fun _ h => by cases h⟩
  · intro h B hB
    have e : fwL names (ws ++ [].map T) r = fwL names ws r := by rw [List.map_nil, List.append_nil]
    rw [e] at hB
    have hn : h ≠ 2 ∧ h ≠ 3 := by
      have := fwL_ne (h := h) (by rw [hB]; simp)
      omega
    show Hp.upd _ _ _ h = _
    unfold Hp.upd
    rw [if_neg hn.2, if_neg hn.1]
    exact hB
  · refine awp_sub (Sub.toFF (fun _ => False) (Fr.fit_cons rfl (fits_chunk r j) (Fr.fit_cons rfl (.refl _) (Fr.fit_cons rfl (.refl _) (Fr.fit_cons rfl (.refl _) (Fr.fit_cons rfl (.refl _) (Fr.fit_cons rfl (.refl _) (Fr.fit_cons rfl (.refl _) (Fr.fit_nil _)))))))) (fun x B h => ⟨fun h => h, B, h, BFits.refl _ _ _⟩)) (hbody pre j hp)
theorem tI_len (names : ByteArray) (rs : List (List Int)) (k : Nat) : (tI names rs k).length ≤ rs.flatten.length := by
  have key : ∀ l : List (List Int), (l.flatMap fun r => (chs r.length).map fun m => tkT names (r.getD 0 0) m).length ≤ l.flatten.length := by
    intro l
    induction l with
    | nil => simp
    | cons a l ih =>
      have : (chs a.length).length ≤ a.length := by unfold chs nch; rw [List.length_map, List.length_range]; omega
      rw [List.flatMap_cons, List.flatten_cons, List.length_append, List.length_append, List.length_map]
      omega
  have h1 := key (rs.take k)
  have h2 : (rs.take k).flatten.length ≤ rs.flatten.length := by
    have := congrArg (fun l => l.flatten.length) (List.take_append_drop k rs)
    simp only [List.flatten_append, List.length_append] at this
    omega
  unfold tI; omega
theorem tI_succ {names : ByteArray} {rs : List (List Int)} {k : Nat} (hk : k < rs.length) : tI names rs (k + 1) = tI names rs k ++ (List.range (nch 99 (rs.getD k []).length)).map fun j => tkT names ((rs.getD k []).getD 0 0) (min 99 ((rs.getD k []).length - 99 * j)) := by
  unfold tI
  rw [List.take_add_one, List.getElem?_eq_getElem hk, List.flatMap_append]
  congr 1
  simp only [Option.toList_some, List.flatMap_cons, List.flatMap_nil, List.append_nil]
  have e : rs.getD k [] = rs[k] := by simp [List.getD_eq_getElem?_getD, hk]
  rw [e]
  unfold chs
  rw [List.map_map]
  rfl
theorem tkT_size (names : ByteArray) (hn : names.size ≤ 8) (x : Int) (n : Nat) : (tkT names x n).size ≤ 12 := by
  have h1 : (names.extract (max x (0 - x) - 1).toNat (max x (0 - x)).toNat).size ≤ 8 := by rw [ByteArray.size_extract]; omega
  have h2 := fmS_size n
  have h3 : (⟨#[39]⟩ : ByteArray).size = 1 := rfl
  unfold tkT
  dsimp only
  split <;> split <;> (try rw [ByteArray.size_append]) <;> (try rw [ByteArray.size_append]) <;> omega
theorem sumS_mul {c : Nat} : ∀ (l : List ByteArray), (∀ x ∈ l, x.size ≤ c) → Go.Nt.sumS l ≤ (c + 1) * l.length
  | [], _ => by simp [Go.Nt.sumS]
  | a :: l, h => by
    have h1 := sumS_mul l fun x hx => h x (List.mem_cons_of_mem _ hx)
    have h2 := h a (List.mem_cons_self ..)
    simp only [Go.Nt.sumS, List.map_cons, List.sum_cons, List.length_cons] at h1 ⊢
    rw [Nat.mul_succ]
    omega
theorem fits_Ss {H : Hp} {D : Nat → Prop} {h : Nat} {ws : List ByteArray} (hH : H h = some (.cells ws.length (cM sv ByteArray.empty ws))) (hD : D h) : Fits H D (.own h 0 1 ws.length) (strs ws) :=
  .own hH hD (by omega) (fun _ _ => trivial) fun i hi => by rw [Nat.zero_add]; exact .refl _
theorem fw_back {A : Fr} {H : Hp} {names X : ByteArray} {vs us : List ByteArray} {r : List Int} {F5 G : Nat → AV} {p : Nat → Bool} (eu : us = vs ++ [X]) (hB : H 1000002 = some (.cells 1 fun _ => .v (.string (names)))) (hC : H 1000005 = some (.cells 1 F5)) (hF5 : F5 0 = .own 30 0 1 (vs.length + 1))
    (hR : H 30 = some (.cells (vs.length + 1) (apF vs.length (scF p (cM sv ByteArray.empty vs)) (scF p G)))) (hG : G 0 = .v (.string (X))) (h7 : H 1000007 = some (.cells 1 fun _ => ints r)) : Sub N2 A H [] (fwL names us r) := by
  have el : us.length = vs.length + 1 := by rw [eu, List.length_append]; rfl
  refine Sub.toFF (fun _ => False) (Fr.fit_nil _) (leF_upd h7 (bfE rfl fun _ _ => rfl) (leF_upd hR (bfE el.symm fun i hi => ?_) (leF_upd hC (bfE rfl fun i hi => ?_) (leF_upd hB (bfE rfl fun _ _ => rfl) leF_emp id) id) id) id)
  · rw [eu]
    unfold apF cM
    by_cases h : i < vs.length
    · rw [if_pos h]
      show (sv (vs.getD i _)).scrub p = _
      simp [List.getD_eq_getElem?_getD, List.getElem?_append_left h, sv, AV.scrub]
    · have : i = vs.length := by omega
      subst this
      rw [if_neg h, Nat.sub_self]
      show (G 0).scrub p = _
      rw [hG]
      simp [List.getD_eq_getElem?_getD, sv, AV.scrub]
  · obtain rfl : i = 0 := by omega
    rw [hF5, el]
theorem fw_out {N : Cx} {A : Fr} {H : Hp} {names : ByteArray} {us : List ByteArray} {i m : Int} {rs : AV} (h24 : A.get 24 = some (.v (.int .i64 (i)))) (h23 : A.get 23 = some (.v (.int .i64 (m)))) (h22 : A.get 22 = some rs) (h5 : A.get 5 = some (.ref 1000005 0)) (h2 : A.get 2 = some (.ref 1000002 0))
    (hB : H 1000002 = some (.cells 1 fun _ => .v (.string (names)))) (hC : H 1000005 = some (.cells 1 fun _ => .own 30 0 1 us.length)) (hR : H 30 = some (.cells us.length (cM sv ByteArray.empty us))) : Sub N A H [(24, .v (.int .i64 (i))), (23, .v (.int .i64 (m))), (22, rs), (5, .ref 1000005 0), (2, .ref 1000002 0)] (fwH names us) :=
  Sub.toFF (fun _ => False) (Fr.fit_cons h24 (.refl _) (Fr.fit_cons h23 (.refl _) (Fr.fit_cons h22 (.refl _) (Fr.fit_cons h5 (.refl _) (Fr.fit_cons h2 (.refl _) (Fr.fit_nil _)))))) (leF_upd hR (bfE rfl fun _ _ => rfl) (leF_upd hC (bfE rfl fun _ _ => rfl) (leF_upd hB (bfE rfl fun _ _ => rfl) leF_emp id) id) id)
/-- What FormatWord answers. -/
def fwP (names : ByteArray) (w : List Int) : ByteArray := if nmP names ∧ isW names.size w then jn ((tks w).map fun p => tkT names p.1 p.2) else ⟨#[]⟩
theorem fwP_yes {names : ByteArray} {w : List Int} (h : nmP names) (h2 : isW names.size w) : fwP names w = jn ((tks w).map fun p => tkT names p.1 p.2) := if_pos ⟨h, h2⟩
theorem fwP_no {names : ByteArray} {w : List Int} (h : ¬ (nmP names ∧ isW names.size w)) : fwP names w = ⟨#[]⟩ := if_neg h
theorem tI_all (names : ByteArray) (w : List Int) : tI names (Go.Wd.runsK (Go.Wd.kf id) w w.length) (Go.Wd.runsK (Go.Wd.kf id) w w.length).length = (tks w).map fun p => tkT names p.1 p.2 := by
  unfold tI Go.Wd.tks Go.Wd.tkR
  rw [List.take_length, List.drop_zero, List.map_flatMap]
  show _ = List.flatMap _ _
  congr 1
  funext r
  rw [List.map_map]
  rfl
theorem run_facts {g : Int} {w : List Int} {rs : List (List Int)} (ers : rs = Go.Wd.runsK (Go.Wd.kf id) w w.length) (h2 : isW g w) (k : Nat) (hk : k < rs.length) : (1 ≤ (rs.getD k []).length ∧ (rs.getD k []).length ≤ 1048576) ∧ isL g ((rs.getD k []).getD 0 0) := by
  have e : rs = Go.Wd.runs id w := ers
  subst e
  obtain ⟨h3, _, h4⟩ := Go.Wd.run_end hk
  have h5 := h3 0 h4
  rw [Nat.add_zero] at h5
  have h6 := len_flat (Go.Wd.runs id w) k
  rw [Go.Wd.runs_flat] at h6
  have h7 := h2.1
  refine ⟨⟨h4, by omega⟩, ?_⟩
  rw [← h5.2.1]; exact h2.2 _ h5.1
set_option maxHeartbeats 4000000 in
theorem implFormatWord_ok (names : ByteArray) (w : List Int) (hs : names.size ≤ 1048576) (hw : w.length ≤ 1048576) : AC Tryd.prog 10 [.v (.string (names)), ints w] Hp.emp (fun _ => false) (retV (.v (.string (fwP names w)))) := by
  have hnm := isNames_ok names (by omega)
  have hvl := implIsValidWord_ok names.size w (by omega)
  by_cases h1 : (1 ≤ names.size ∧ names.size ≤ 8) ∧ ∀ i, i < names.size → isName names i
  · rw [decide_eq_true h1] at hnm
    by_cases h2 : isW names.size w
    · rw [decide_eq_true h2] at hvl
      have hrn := runs_okA w 40 (Go.Wd.kf id) hw (fun i j _ _ => eqLetters_ok _ _)
      obtain ⟨rs, ers⟩ : ∃ rs, rs = Go.Wd.runsK (Go.Wd.kf id) w w.length := ⟨_, rfl⟩
      rw [← ers] at hrn
      have hnm := Hold.mk hnm
      have hvl := Hold.mk hvl
      have hrn := Hold.mk hrn
      refine ac_of_awp (N := ⟨_, fun _ => false, fun _ _ => rfl, true⟩) Tryd.func10 rfl (by kernel_rfl) Tryd.ntmps10 (by simp) ?_
      simp only [argsFr, List.zipIdx_cons, List.zipIdx_nil, go_sem]
      repeat' (first | refine awp_seqK fun K hK => ?_ | (refine awp_regionK 36099167437719479 rfl ?_; simp only [List.map_cons, List.map_nil]; simp (maxSteps := 1000000) (dsimp := false) (implicitDefEqProofs := false) (disch := omega) only [wrap64, go_sem]) | (refine awp_regionQK 36099167437719479 (by kernel_rfl) (by kernel_rfl) (by kernel_rfl) ?_; simp only [List.map_cons, List.map_nil]; simp (maxSteps := 1000000) (dsimp := false) (implicitDefEqProofs := false) (disch := omega) only [wrap64, go_sem]) | refine awp_block ?_ | (refine awp_skip ?_; simp only [go_sem]) | (refine awp_exit ?_; simp only [go_sem]) | (refine awp_ret ?_; try simp only [go_sem]) | (refine awp_condP rfl ?_; try simp only [go_sem]) | (refine BrP.mk (fun h => ?_) (fun h => ?_) <;> try simp (dsimp := false) (disch := omega) only [wrap64]) | (refine Br.mk (fun h => ?_) (fun h => ?_) <;> try simp (dsimp := false) (disch := omega) only [wrap64]) | refine Ob.mk (by first | omega | (intro _ _; rfl) | trivial | (intros; trivial) | assumption | (intro i hi; have h0 : i = 0 := (by omega); subst h0; first | rfl | trivial) | (intro i hi; have h0 : i = 0 ∨ i = 1 := (by omega); rcases h0 with rfl | rfl <;> rfl) | (intro i hi; have h0 : i = 0 ∨ i = 1 ∨ i = 2 := (by omega); rcases h0 with rfl | rfl | rfl <;> rfl)) ?_ | ((first | ((first | refine atF (f := 37) ?_ | refine atQ (f := 37) ?_); (first | refine cV (hfit := .cons (.refl _) .nil) (hac := hnm.h) (hK := ?_) | refine cQV (hfit := .cons (.refl _) .nil) (hac := hnm.h) (hK := ?_))) | ((first | refine atF (f := 38) ?_ | refine atQ (f := 38) ?_); (first | refine cV (hfit := .cons (.refl _) (.cons (.refl _) .nil)) (hac := hvl.h) (hK := ?_) | refine cQV (hfit := .cons (.refl _) (.cons (.refl _) .nil)) (hac := hvl.h) (hK := ?_))) | ((first | refine atF (f := 39) ?_ | refine atQ (f := 39) ?_); (refine cR (hac := hrn.h) (hs := by rfl) (hK := ?_)))); simp (maxSteps := 1000000) (dsimp := false) (implicitDefEqProofs := false) (disch := omega) only [wrap64, go_sem]) | apply_assumption -exfalso -symm)
      all_goals (first | (show endQ _ _ _ _ _ _ _; (repeat (rename (∀ (A : Fr) (H : Hp), AWP _ _ _ _ A H → _) => hK; clear hK)); (repeat (rename (Fr → Hp → Prop) => K; clear K))) | (show Exists _; (repeat (rename (∀ (A : Fr) (H : Hp), AWP _ _ _ _ A H → _) => hK; clear hK)); (repeat (rename (Fr → Hp → Prop) => K; clear K))) | skip)
      have hrl2 : rs.length ≤ w.length := by rw [ers]; exact (Go.Wd.runsK_pos _ w _).2
      have hw2 := h2.1
      refine awp_loop (ι := Nat) (fun k => [(24, .v (.int .i64 (k))), (23, .v (.int .i64 (rs.length))), (22, intss rs), (5, .ref 1000005 0), (2, .ref 1000002 0)]) (fun k => fwH names (tI names rs k)) (fun k => k ≤ rs.length) (fun k => rs.length - k) 0 (Nat.zero_le _) (enterF trivial rfl rfl rfl rfl rfl rfl rfl rfl) ?_
      intro k hk
      obtain ⟨ws, ews⟩ : ∃ ws, ws = tI names rs k := ⟨_, rfl⟩
      rw [← ews]
      unfold fwH
      have hrun := run_facts ers h2 k
      have hrl : k < rs.length → 1 ≤ (rs.getD k []).length ∧ (rs.getD k []).length ≤ 1048576 := fun h => (hrun h).1
      repeat' (first | (refine fw_chunks (names := names) (ws := ws) (r := rs.getD k []) (rs := intss rs) (fun j => tkT names ((rs.getD k []).getD 0 0) (min 99 ((rs.getD k []).length - 99 * j))) trivial (fun _ => rfl) (hrl (by omega)) rfl rfl rfl rfl rfl rfl rfl rfl rfl rfl rfl rfl rfl rfl rfl rfl rfl rfl rfl rfl ?_ ?_; rotate_left; unfold fwA fwL fwH; simp only [go_sem]; rotate_right) | refine awp_seqK fun K hK => ?_ | (refine awp_regionK 36099167437719479 rfl ?_; simp only [List.map_cons, List.map_nil]; simp (maxSteps := 1000000) (dsimp := false) (implicitDefEqProofs := false) (disch := omega) only [wrap64, go_sem, ckB_7, ckB_30, ckB_A, ckB_B, Bool.false_eq_true]) | (refine awp_regionQK 36099167437719479 (by kernel_rfl) (by kernel_rfl) (by kernel_rfl) ?_; simp only [List.map_cons, List.map_nil]; simp (maxSteps := 1000000) (dsimp := false) (implicitDefEqProofs := false) (disch := omega) only [wrap64, go_sem, ckB_7, ckB_30, ckB_A, ckB_B, Bool.false_eq_true]) | refine awp_block ?_ | (refine awp_skip ?_; simp only [go_sem, ckB_7, ckB_30, ckB_A, ckB_B, Bool.false_eq_true]) | (refine awp_exit ?_; simp only [go_sem, ckB_7, ckB_30, ckB_A, ckB_B, Bool.false_eq_true]) | (refine awp_ret ?_; try simp only [go_sem, ckB_7, ckB_30, ckB_A, ckB_B, Bool.false_eq_true]) | (refine awp_condP rfl ?_; try simp only [go_sem, ckB_7, ckB_30, ckB_A, ckB_B, Bool.false_eq_true]) | (refine BrP.mk (fun h => ?_) (fun h => ?_) <;> try simp (dsimp := false) (disch := omega) only [wrap64]) | (refine Br.mk (fun h => ?_) (fun h => ?_) <;> try simp (dsimp := false) (disch := omega) only [wrap64]) | refine Ob.mk (by first | omega | (intro _ _; rfl) | trivial | (intros; trivial) | assumption | (intro i hi; have h0 : i = 0 := (by omega); subst h0; first | rfl | trivial) | (intro i hi; have h0 : i = 0 ∨ i = 1 := (by omega); rcases h0 with rfl | rfl <;> rfl) | (intro i hi; have h0 : i = 0 ∨ i = 1 ∨ i = 2 := (by omega); rcases h0 with rfl | rfl | rfl <;> rfl)) ?_ | ((first | ((first | refine atF (f := 41) ?_ | refine atQ (f := 41) ?_); (refine callCk (hac := chunk_ok _) (fun _ => rfl) (fun _ => rfl) (fun h hh => by cases hh) ?_))); simp (maxSteps := 1000000) (dsimp := false) (implicitDefEqProofs := false) (disch := omega) only [wrap64, go_sem, ckB_7, ckB_30, ckB_A, ckB_B, Bool.false_eq_true]) | apply_assumption -exfalso -symm)
      all_goals (first | (show endQ _ _ _ _ _ _ _; (repeat (rename (∀ (A : Fr) (H : Hp), AWP _ _ _ _ A H → _) => hK; clear hK)); (repeat (rename (Fr → Hp → Prop) => K; clear K))) | (show Exists _; (repeat (rename (∀ (A : Fr) (H : Hp), AWP _ _ _ _ A H → _) => hK; clear hK)); (repeat (rename (Fr → Hp → Prop) => K; clear K))) | skip)
      · intro pre j hp
        obtain ⟨r, er⟩ : ∃ r, r = rs.getD k [] := ⟨_, rfl⟩
        have hr := hrun (by omega)
        rw [← er] at hp hr ⊢
        obtain ⟨⟨hr1, hr2⟩, hx0, hx1, hx2, hx3⟩ := hr
        obtain ⟨vs, evs⟩ : ∃ vs, vs = ws ++ pre.map (fun j => tkT names (r.getD 0 0) (min 99 (r.length - 99 * j))) := ⟨_, rfl⟩
        rw [← evs]
        have hck : ((r.drop (99 * j)).take 99).length = min 99 (r.length - 99 * j) := by rw [List.length_take, List.length_drop]
        obtain ⟨ck, eck⟩ : ∃ ck, ck = (r.drop (99 * j)).take 99 := ⟨_, rfl⟩
        rw [← eck] at hck ⊢
        obtain ⟨x, ex⟩ : ∃ x, x = r.getD 0 0 := ⟨_, rfl⟩
        have e0 : r.getD (Int.toNat 0) 0 = x := ex.symm
        rw [← ex] at hx0 hx1 hx2 hx3 ⊢
        have hvl2 : vs.length ≤ 3000000 := by
          have h5 := tI_len names rs k
          rw [← ews] at h5
          have h6 : rs.flatten = w := by rw [ers]; exact Go.Wd.runs_flat id w
          have h7 : nch 99 r.length ≤ r.length := by unfold nch; omega
          rw [evs, List.length_append, List.length_map]
          rw [h6] at h5
          omega
        have hdec := decimal_ok ck.length (by omega)
        obtain ⟨F, eF⟩ : ∃ F, F = fmS ck.length := ⟨_, rfl⟩
        have hF : F.size ≤ 3 := by rw [eF]; exact fmS_size _
        rw [← eF] at hdec
        obtain ⟨s, es⟩ : ∃ s, names.extract (max x (0 - x) - 1).toNat (max x (0 - x)).toNat = s := ⟨_, rfl⟩
        have hs1 : s.size ≤ 8 := by rw [← es, ByteArray.size_extract]; omega
        have etk : tkT names x (min 99 (r.length - 99 * j)) = if x < 0 then (if 1 < ck.length then s ++ F else s) ++ ⟨#[39]⟩ else (if 1 < ck.length then s ++ F else s) := by unfold tkT; rw [es, eF, hck]
        have hdec := Hold.mk hdec
        unfold fwA fwL fwH
        repeat' (first | refine awp_seqK fun K hK => ?_ | (refine awp_regionK 36099167437719479 rfl ?_; simp only [List.map_cons, List.map_nil]; simp (maxSteps := 1000000) (dsimp := false) (implicitDefEqProofs := false) (disch := omega) only [wrap64, go_sem, e0, es]) | (refine awp_regionQK 36099167437719479 (by kernel_rfl) (by kernel_rfl) (by kernel_rfl) ?_; simp only [List.map_cons, List.map_nil]; simp (maxSteps := 1000000) (dsimp := false) (implicitDefEqProofs := false) (disch := omega) only [wrap64, go_sem, e0, es]) | refine awp_block ?_ | (refine awp_skip ?_; simp only [go_sem, e0, es]) | (refine awp_exit ?_; simp only [go_sem, e0, es]) | (refine awp_ret ?_; try simp only [go_sem, e0, es]) | (refine awp_condP rfl ?_; try simp only [go_sem, e0, es]) | (refine BrP.mk (fun h => ?_) (fun h => ?_) <;> try simp (dsimp := false) (disch := omega) only [wrap64]) | (refine Br.mk (fun h => ?_) (fun h => ?_) <;> try simp (dsimp := false) (disch := omega) only [wrap64]) | refine Ob.mk (by first | omega | (intro _ _; rfl) | trivial | (intros; trivial) | assumption | (intro i hi; have h0 : i = 0 := (by omega); subst h0; first | rfl | trivial) | (intro i hi; have h0 : i = 0 ∨ i = 1 := (by omega); rcases h0 with rfl | rfl <;> rfl) | (intro i hi; have h0 : i = 0 ∨ i = 1 ∨ i = 2 := (by omega); rcases h0 with rfl | rfl | rfl <;> rfl)) ?_ | ((first | ((first | refine atF (f := 43) ?_ | refine atQ (f := 43) ?_); (first | (refine cV (hac := length_ok ck) (hK := ?_)) | (refine cQV (hac := length_ok ck) (hK := ?_)))) | ((first | refine atF (f := 42) ?_ | refine atQ (f := 42) ?_); (refine cV (hfit := .cons (.refl _) .nil) (hac := hdec.h) (hK := ?_)))); simp (maxSteps := 1000000) (dsimp := false) (implicitDefEqProofs := false) (disch := omega) only [wrap64, go_sem, e0, es]) | apply_assumption -exfalso -symm)
        all_goals (first | (show endQ _ _ _ _ _ _ _; (repeat (rename (∀ (A : Fr) (H : Hp), AWP _ _ _ _ A H → _) => hK; clear hK)); (repeat (rename (Fr → Hp → Prop) => K; clear K))) | (show Exists _; (repeat (rename (∀ (A : Fr) (H : Hp), AWP _ _ _ _ A H → _) => hK; clear hK)); (repeat (rename (Fr → Hp → Prop) => K; clear K))) | skip)
        all_goals first
          | (refine fw_back (X := tkT names x (min 99 (r.length - 99 * j))) ?_ rfl rfl rfl rfl ?_ rfl
             · rw [evs, ← ex, List.map_append, ← List.append_assoc]; rfl
             · rw [etk]; first | (rw [if_pos (by omega), if_pos (by omega)]; rfl) | (rw [if_pos (by omega), if_neg (by omega)]; rfl) | (rw [if_neg (by omega), if_pos (by omega)]; rfl) | (rw [if_neg (by omega), if_neg (by omega)]; rfl))
      · refine ⟨k + 1, by omega, by omega, ?_⟩
        have e := tI_succ (names := names) (rs := rs) (k := k) (by omega)
        rw [← ews] at e
        rw [e]
        exact fw_out rfl rfl rfl rfl rfl rfl rfl rfl
      · have e : k = rs.length := by omega
        subst e
        have hsz : (jn ws).size ≤ 140737488355328 ∧ ws.length ≤ 1048576 := by
          have a1 := Go.Nt.jn_size ws
          have a2 := tI_len names rs rs.length
          have a3 : rs.flatten = w := by rw [ers]; exact Go.Wd.runs_flat id w
          rw [← ews, a3] at a2
          have a4 := sumS_mul (c := 12) ws fun x hx => by
            rw [ews] at hx
            unfold tI at hx
            obtain ⟨r, _, hx⟩ := List.mem_flatMap.1 hx
            obtain ⟨m, _, rfl⟩ := List.mem_map.1 hx
            exact tkT_size names h1.1.2 _ _
          omega
        have hjn := join_ok ws hsz.2 hsz.1
        repeat' (first | refine awp_seqK fun K hK => ?_ | (refine awp_regionK 36099167437719479 rfl ?_; simp only [List.map_cons, List.map_nil]; simp (maxSteps := 1000000) (dsimp := false) (implicitDefEqProofs := false) (disch := omega) only [wrap64, go_sem]) | (refine awp_regionQK 36099167437719479 (by kernel_rfl) (by kernel_rfl) (by kernel_rfl) ?_; simp only [List.map_cons, List.map_nil]; simp (maxSteps := 1000000) (dsimp := false) (implicitDefEqProofs := false) (disch := omega) only [wrap64, go_sem]) | refine awp_block ?_ | (refine awp_skip ?_; simp only [go_sem]) | (refine awp_exit ?_; simp only [go_sem]) | (refine awp_ret ?_; try simp only [go_sem]) | (refine awp_condP rfl ?_; try simp only [go_sem]) | (refine BrP.mk (fun h => ?_) (fun h => ?_) <;> try simp (dsimp := false) (disch := omega) only [wrap64]) | (refine Br.mk (fun h => ?_) (fun h => ?_) <;> try simp (dsimp := false) (disch := omega) only [wrap64]) | refine Ob.mk (by first | omega | (intro _ _; rfl) | trivial | (intros; trivial) | assumption | (intro i hi; have h0 : i = 0 := (by omega); subst h0; first | rfl | trivial) | (intro i hi; have h0 : i = 0 ∨ i = 1 := (by omega); rcases h0 with rfl | rfl <;> rfl) | (intro i hi; have h0 : i = 0 ∨ i = 1 ∨ i = 2 := (by omega); rcases h0 with rfl | rfl | rfl <;> rfl)) ?_ | ((first | ((first | refine atF (f := 44) ?_ | refine atQ (f := 44) ?_); (refine cV (hfit := .cons (fits_Ss rfl trivial) (.cons (.refl _) .nil)) (hac := hjn) (hK := ?_)))); simp (maxSteps := 1000000) (dsimp := false) (implicitDefEqProofs := false) (disch := omega) only [wrap64, go_sem]) | apply_assumption -exfalso -symm)
        all_goals (first | (show endQ _ _ _ _ _ _ _; (repeat (rename (∀ (A : Fr) (H : Hp), AWP _ _ _ _ A H → _) => hK; clear hK)); (repeat (rename (Fr → Hp → Prop) => K; clear K))) | (show Exists _; (repeat (rename (∀ (A : Fr) (H : Hp), AWP _ _ _ _ A H → _) => hK; clear hK)); (repeat (rename (Fr → Hp → Prop) => K; clear K))) | skip)
        refine end_retV' rfl rfl ?_
        rw [fwP_yes h1 h2, ews, ers, tI_all]
    · rw [decide_eq_false h2] at hvl
      rw [fwP_no (fun h => h2 h.2)]
      have hnm := Hold.mk hnm
      have hvl := Hold.mk hvl
      clear h1 h2
      refine ac_of_awp (N := ⟨_, fun _ => false, fun _ _ => rfl, true⟩) Tryd.func10 rfl (by kernel_rfl) Tryd.ntmps10 (by simp) ?_
      simp only [argsFr, List.zipIdx_cons, List.zipIdx_nil, go_sem]
      repeat' (first | refine awp_seqK fun K hK => ?_ | (refine awp_regionK 36099167437719479 rfl ?_; simp only [List.map_cons, List.map_nil]; simp (maxSteps := 1000000) (dsimp := false) (implicitDefEqProofs := false) (disch := omega) only [wrap64, go_sem]) | (refine awp_regionQK 36099167437719479 (by kernel_rfl) (by kernel_rfl) (by kernel_rfl) ?_; simp only [List.map_cons, List.map_nil]; simp (maxSteps := 1000000) (dsimp := false) (implicitDefEqProofs := false) (disch := omega) only [wrap64, go_sem]) | refine awp_block ?_ | (refine awp_skip ?_; simp only [go_sem]) | (refine awp_exit ?_; simp only [go_sem]) | (refine awp_ret ?_; try simp only [go_sem]) | (refine awp_condP rfl ?_; try simp only [go_sem]) | (refine BrP.mk (fun h => ?_) (fun h => ?_) <;> try simp (dsimp := false) (disch := omega) only [wrap64]) | (refine Br.mk (fun h => ?_) (fun h => ?_) <;> try simp (dsimp := false) (disch := omega) only [wrap64]) | refine Ob.mk (by first | omega | (intro _ _; rfl) | trivial | (intros; trivial) | assumption | (intro i hi; have h0 : i = 0 := (by omega); subst h0; first | rfl | trivial) | (intro i hi; have h0 : i = 0 ∨ i = 1 := (by omega); rcases h0 with rfl | rfl <;> rfl) | (intro i hi; have h0 : i = 0 ∨ i = 1 ∨ i = 2 := (by omega); rcases h0 with rfl | rfl | rfl <;> rfl)) ?_ | ((first | ((first | refine atF (f := 37) ?_ | refine atQ (f := 37) ?_); (first | refine cV (hfit := .cons (.refl _) .nil) (hac := hnm.h) (hK := ?_) | refine cQV (hfit := .cons (.refl _) .nil) (hac := hnm.h) (hK := ?_))) | ((first | refine atF (f := 38) ?_ | refine atQ (f := 38) ?_); (first | refine cV (hfit := .cons (.refl _) (.cons (.refl _) .nil)) (hac := hvl.h) (hK := ?_) | refine cQV (hfit := .cons (.refl _) (.cons (.refl _) .nil)) (hac := hvl.h) (hK := ?_)))); simp (maxSteps := 1000000) (dsimp := false) (implicitDefEqProofs := false) (disch := omega) only [wrap64, go_sem]) | apply_assumption -exfalso -symm)
      all_goals (first | (show endQ _ _ _ _ _ _ _; (repeat (rename (∀ (A : Fr) (H : Hp), AWP _ _ _ _ A H → _) => hK; clear hK)); (repeat (rename (Fr → Hp → Prop) => K; clear K))) | (show Exists _; (repeat (rename (∀ (A : Fr) (H : Hp), AWP _ _ _ _ A H → _) => hK; clear hK)); (repeat (rename (Fr → Hp → Prop) => K; clear K))) | skip)
      all_goals first | exact end_retV rfl rfl
  · rw [decide_eq_false h1] at hnm
    rw [fwP_no (fun h => h1 h.1)]
    have hnm := Hold.mk hnm
    clear h1 hvl
    refine ac_of_awp (N := ⟨_, fun _ => false, fun _ _ => rfl, true⟩) Tryd.func10 rfl (by kernel_rfl) Tryd.ntmps10 (by simp) ?_
    simp only [argsFr, List.zipIdx_cons, List.zipIdx_nil, go_sem]
    repeat' (first | refine awp_seqK fun K hK => ?_ | (refine awp_regionK 36099167437719479 rfl ?_; simp only [List.map_cons, List.map_nil]; simp (maxSteps := 1000000) (dsimp := false) (implicitDefEqProofs := false) (disch := omega) only [wrap64, go_sem]) | (refine awp_regionQK 36099167437719479 (by kernel_rfl) (by kernel_rfl) (by kernel_rfl) ?_; simp only [List.map_cons, List.map_nil]; simp (maxSteps := 1000000) (dsimp := false) (implicitDefEqProofs := false) (disch := omega) only [wrap64, go_sem]) | refine awp_block ?_ | (refine awp_skip ?_; simp only [go_sem]) | (refine awp_exit ?_; simp only [go_sem]) | (refine awp_ret ?_; try simp only [go_sem]) | (refine awp_condP rfl ?_; try simp only [go_sem]) | (refine BrP.mk (fun h => ?_) (fun h => ?_) <;> try simp (dsimp := false) (disch := omega) only [wrap64]) | (refine Br.mk (fun h => ?_) (fun h => ?_) <;> try simp (dsimp := false) (disch := omega) only [wrap64]) | refine Ob.mk (by first | omega | (intro _ _; rfl) | trivial | (intros; trivial) | assumption | (intro i hi; have h0 : i = 0 := (by omega); subst h0; first | rfl | trivial) | (intro i hi; have h0 : i = 0 ∨ i = 1 := (by omega); rcases h0 with rfl | rfl <;> rfl) | (intro i hi; have h0 : i = 0 ∨ i = 1 ∨ i = 2 := (by omega); rcases h0 with rfl | rfl | rfl <;> rfl)) ?_ | ((first | ((first | refine atF (f := 37) ?_ | refine atQ (f := 37) ?_); (first | refine cV (hfit := .cons (.refl _) .nil) (hac := hnm.h) (hK := ?_) | refine cQV (hfit := .cons (.refl _) .nil) (hac := hnm.h) (hK := ?_)))); simp (maxSteps := 1000000) (dsimp := false) (implicitDefEqProofs := false) (disch := omega) only [wrap64, go_sem]) | apply_assumption -exfalso -symm)
    all_goals (first | (show endQ _ _ _ _ _ _ _; (repeat (rename (∀ (A : Fr) (H : Hp), AWP _ _ _ _ A H → _) => hK; clear hK)); (repeat (rename (Fr → Hp → Prop) => K; clear K))) | (show Exists _; (repeat (rename (∀ (A : Fr) (H : Hp), AWP _ _ _ _ A H → _) => hK; clear hK)); (repeat (rename (Fr → Hp → Prop) => K; clear K))) | skip)
    all_goals first | exact end_retV rfl rfl
end Go.Proofs.YticbabpajligbaaDoor
end
