import Derived.Test.YtdllbnchcjgcdaaI4
import Derived.Test.YtdllbnchcjgcdaaI2
import Derived.Test.YtdllbnchcjgcdaaI3
section
namespace Go.Proofs.Ytdllbnchcjgcdaa
open Go.Av
set_option linter.unusedSimpArgs false
set_option linter.unusedVariables false
attribute [local irreducible] AWP CallG Ob Br BrP Go.Av.Sub endQ AOps OpV AC thenA blkA opsVC opVC withA withArgs opsQ opQ CallQ withA2 withArgs2

def isSt (p : Pz) (s : List Int) : Prop := isPz p ∧ (s.length : Int) = p.n ∧ isPerm s
instance (p : Pz) (s : List Int) : Decidable (isSt p s) := by unfold isSt; infer_instance

theorem isSt_len {p : Pz} {s : List Int} (h : isSt p s) : (s.length : Int) = p.n ∧ 1 ≤ p.n ∧ p.n ≤ 20 := by
  have := h.1.1.1
  exact ⟨h.2.1, this.1, this.2⟩

/- IsSolved -/
theorem equalInts_ok (xs ys : List Int) (hx : xs.length ≤ 1048576) : AC Try.prog 155 [ints xs, ints ys] Hp.emp (fun _ => false) (retV (.v (.bool (decide (xs = ys))))) := by
  refine ac_of_awp (N := ⟨_, fun _ => false, fun _ _ => rfl⟩) Try.func155 rfl (by kernel_rfl) Try.ntmps155 (by simp) ?_
  simp only [argsFr, List.zipIdx_cons, List.zipIdx_nil, go_sem]
  repeat' (first | refine awp_seqK fun K hK => ?_ | (refine awp_regionK 33571891 rfl ?_; simp only [List.map_cons, List.map_nil]; simp (maxSteps := 1000000) (dsimp := false) (implicitDefEqProofs := false) (disch := omega) only [wrap64, go_sem]) | (refine awp_regionQK 33571891 (by kernel_rfl) (by kernel_rfl) (by kernel_rfl) ?_; simp only [List.map_cons, List.map_nil]; simp (maxSteps := 1000000) (dsimp := false) (implicitDefEqProofs := false) (disch := omega) only [wrap64, go_sem]) | refine awp_block ?_ | (refine awp_skip ?_; simp only [go_sem]) | (refine awp_exit ?_; simp only [go_sem]) | (refine awp_ret ?_; try simp only [go_sem]) | (refine awp_condP rfl ?_; try simp only [go_sem]) | (refine BrP.mk (fun h => ?_) (fun h => ?_) <;> try simp (dsimp := false) (disch := omega) only [wrap64]) | (refine Br.mk (fun h => ?_) (fun h => ?_) <;> try simp (dsimp := false) (disch := omega) only [wrap64]) | refine Ob.mk (by first | omega | (intro _ _; rfl) | trivial | (intros; trivial) | assumption | (intro i hi; have h0 : i = 0 := (by omega); subst h0; first | rfl | trivial) | (intro i hi; have h0 : i = 0 ∨ i = 1 := (by omega); rcases h0 with rfl | rfl <;> rfl) | (intro i hi; have h0 : i = 0 ∨ i = 1 ∨ i = 2 := (by omega); rcases h0 with rfl | rfl | rfl <;> rfl)) ?_ | apply_assumption -exfalso -symm)
  all_goals (first | (show endQ _ _ _ _ _ _ _; (repeat (rename (∀ (A : Fr) (H : Hp), AWP _ _ _ _ A H → _) => hK; clear hK)); (repeat (rename (Fr → Hp → Prop) => K; clear K))) | (show Exists _; (repeat (rename (∀ (A : Fr) (H : Hp), AWP _ _ _ _ A H → _) => hK; clear hK)); (repeat (rename (Fr → Hp → Prop) => K; clear K))) | skip)
  · have hl : xs.length = ys.length := by omega
    refine awp_loop (ι := Nat) (fun k => [(5, .v (.int .i64 (k))), (0, .list false 1 (xs).length (cM iv 0 (xs))), (1, .list false 1 (ys).length (cM iv 0 (ys)))]) (fun k => Hp.emp) (fun k => k ≤ xs.length ∧ ∀ j, j < k → xs.getD j 0 = ys.getD j 0) (fun k => xs.length - k) 0 ?_ (Sub.toL (by simp only [go_sem] <;> first | trivial | (simp only [Option.some.injEq, AV.v.injEq, AV.own.injEq, AV.list.injEq, Value.int.injEq, Value.bool.injEq, true_and, and_true]; first | omega | (simp; done)) | (simp; done) | (simp; omega)) (by (repeat' (first | exact Hp.le_emp _ | exact Hp.le_refl _ | refine Hp.le_upd ?_ ?_)); all_goals (first | rfl | (simp only [go_sem]; first | rfl | (refine cellsE ?_ ?_ <;> (simp)) | (simp))))) ?_
    · exact ⟨Nat.zero_le _, fun j h => absurd h (Nat.not_lt_zero _)⟩
    intro k hk
    repeat' (first | refine awp_seqK fun K hK => ?_ | (refine awp_regionK 33571891 rfl ?_; simp only [List.map_cons, List.map_nil]; simp (maxSteps := 1000000) (dsimp := false) (implicitDefEqProofs := false) (disch := omega) only [wrap64, go_sem]) | (refine awp_regionQK 33571891 (by kernel_rfl) (by kernel_rfl) (by kernel_rfl) ?_; simp only [List.map_cons, List.map_nil]; simp (maxSteps := 1000000) (dsimp := false) (implicitDefEqProofs := false) (disch := omega) only [wrap64, go_sem]) | refine awp_block ?_ | (refine awp_skip ?_; simp only [go_sem]) | (refine awp_exit ?_; simp only [go_sem]) | (refine awp_ret ?_; try simp only [go_sem]) | (refine awp_condP rfl ?_; try simp only [go_sem]) | (refine BrP.mk (fun h => ?_) (fun h => ?_) <;> try simp (dsimp := false) (disch := omega) only [wrap64]) | (refine Br.mk (fun h => ?_) (fun h => ?_) <;> try simp (dsimp := false) (disch := omega) only [wrap64]) | refine Ob.mk (by first | omega | (intro _ _; rfl) | trivial | (intros; trivial) | assumption | (intro i hi; have h0 : i = 0 := (by omega); subst h0; first | rfl | trivial) | (intro i hi; have h0 : i = 0 ∨ i = 1 := (by omega); rcases h0 with rfl | rfl <;> rfl) | (intro i hi; have h0 : i = 0 ∨ i = 1 ∨ i = 2 := (by omega); rcases h0 with rfl | rfl | rfl <;> rfl)) ?_ | apply_assumption -exfalso -symm)
    all_goals (first | (show endQ _ _ _ _ _ _ _; (repeat (rename (∀ (A : Fr) (H : Hp), AWP _ _ _ _ A H → _) => hK; clear hK)); (repeat (rename (Fr → Hp → Prop) => K; clear K))) | (show Exists _; (repeat (rename (∀ (A : Fr) (H : Hp), AWP _ _ _ _ A H → _) => hK; clear hK)); (repeat (rename (Fr → Hp → Prop) => K; clear K))) | skip)
    · refine ⟨k + 1, ?_, ?_, Sub.toL (by simp only [go_sem] <;> first | trivial | (simp only [Option.some.injEq, AV.v.injEq, AV.own.injEq, AV.list.injEq, Value.int.injEq, Value.bool.injEq, true_and, and_true]; first | omega | (simp; done)) | (simp; done) | (simp; omega)) (by (repeat' (first | exact Hp.le_emp _ | exact Hp.le_refl _ | refine Hp.le_upd ?_ ?_)); all_goals (first | rfl | (simp only [go_sem]; first | rfl | (refine cellsE ?_ ?_ <;> (simp)) | (simp))))⟩
      · refine ⟨by omega, fun j hj => ?_⟩
        by_cases h' : j = k
        · subst h'; assumption
        · exact hk.2 j (by omega)
      · omega
    · refine end_retB rfl rfl ?_
      simp only [Bool.false_eq_true, false_iff]
      rintro rfl
      exact absurd rfl ‹¬_›
    · refine end_retB rfl rfl ?_
      simp only [true_iff]
      exact eq_of_getD hl fun j hj => hk.2 j (by omega)
  · exact end_retB rfl rfl (by simp; rintro rfl; simp at h)

theorem specIdentity_ok (n : Nat) (hn : n ≤ 1048576) (d : Nat) : AC Try.prog 149 [.v (.int .i64 (n))] Hp.emp (fun _ => false) (retI d (marks 0 n)) := by
  refine ac_of_awp (N := ⟨_, fun _ => false, fun _ _ => rfl⟩) Try.func149 rfl (by kernel_rfl) Try.ntmps149 (by simp) ?_
  simp only [argsFr, List.zipIdx_cons, List.zipIdx_nil, go_sem]
  repeat' (first | refine awp_seqK fun K hK => ?_ | (refine awp_regionK 285 rfl ?_; simp only [List.map_cons, List.map_nil]; simp (maxSteps := 1000000) (dsimp := false) (implicitDefEqProofs := false) (disch := omega) only [wrap64, go_sem]) | (refine awp_regionQK 285 (by kernel_rfl) (by kernel_rfl) (by kernel_rfl) ?_; simp only [List.map_cons, List.map_nil]; simp (maxSteps := 1000000) (dsimp := false) (implicitDefEqProofs := false) (disch := omega) only [wrap64, go_sem]) | refine awp_block ?_ | (refine awp_skip ?_; simp only [go_sem]) | (refine awp_exit ?_; simp only [go_sem]) | (refine awp_ret ?_; try simp only [go_sem]) | (refine awp_condP rfl ?_; try simp only [go_sem]) | (refine BrP.mk (fun h => ?_) (fun h => ?_) <;> try simp (dsimp := false) (disch := omega) only [wrap64]) | (refine Br.mk (fun h => ?_) (fun h => ?_) <;> try simp (dsimp := false) (disch := omega) only [wrap64]) | refine Ob.mk (by first | omega | (intro _ _; rfl) | trivial | (intros; trivial) | assumption | (intro i hi; have h0 : i = 0 := (by omega); subst h0; first | rfl | trivial) | (intro i hi; have h0 : i = 0 ∨ i = 1 := (by omega); rcases h0 with rfl | rfl <;> rfl) | (intro i hi; have h0 : i = 0 ∨ i = 1 ∨ i = 2 := (by omega); rcases h0 with rfl | rfl | rfl <;> rfl)) ?_ | apply_assumption -exfalso -symm)
  all_goals (first | (show endQ _ _ _ _ _ _ _; (repeat (rename (∀ (A : Fr) (H : Hp), AWP _ _ _ _ A H → _) => hK; clear hK)); (repeat (rename (Fr → Hp → Prop) => K; clear K))) | (show Exists _; (repeat (rename (∀ (A : Fr) (H : Hp), AWP _ _ _ _ A H → _) => hK; clear hK)); (repeat (rename (Fr → Hp → Prop) => K; clear K))) | skip)
  refine awp_loop (ι := Nat) (fun k => [(4, .v (.int .i64 (k))), (3, .own 5 0 1 (marks 0 k).length), (0, .v (.int .i64 (n)))]) (fun k => Hp.emp.upd 5 (.cells (marks 0 k).length (cM iv 0 (marks 0 k)))) (fun k => k ≤ n) (fun k => n - k) 0 ?_ (Sub.toL (by simp only [go_sem] <;> first | trivial | (simp only [Option.some.injEq, AV.v.injEq, AV.own.injEq, AV.list.injEq, Value.int.injEq, Value.bool.injEq, true_and, and_true]; first | omega | (simp [marks]; done)) | (simp [marks]; done) | (simp [marks]; omega)) (by (repeat' (first | exact Hp.le_emp _ | exact Hp.le_refl _ | refine Hp.le_upd ?_ ?_)); all_goals (first | rfl | (simp only [go_sem]; first | rfl | (refine cellsE ?_ ?_ <;> (simp [marks])) | (simp [marks]))))) ?_
  · exact Nat.zero_le _
  intro k hk
  have h1 := marks_length 0 k
  have h2 := marks_length 0 (k + 1)
  have h3 : marks 0 k ++ [(k : Int)] = marks 0 (k + 1) := by simp [marks, List.range_succ]
  repeat' (first | refine awp_seqK fun K hK => ?_ | (refine awp_regionK 285 rfl ?_; simp only [List.map_cons, List.map_nil]; simp (maxSteps := 1000000) (dsimp := false) (implicitDefEqProofs := false) (disch := omega) only [wrap64, go_sem]) | (refine awp_regionQK 285 (by kernel_rfl) (by kernel_rfl) (by kernel_rfl) ?_; simp only [List.map_cons, List.map_nil]; simp (maxSteps := 1000000) (dsimp := false) (implicitDefEqProofs := false) (disch := omega) only [wrap64, go_sem]) | refine awp_block ?_ | (refine awp_skip ?_; simp only [go_sem]) | (refine awp_exit ?_; simp only [go_sem]) | (refine awp_ret ?_; try simp only [go_sem]) | (refine awp_condP rfl ?_; try simp only [go_sem]) | (refine BrP.mk (fun h => ?_) (fun h => ?_) <;> try simp (dsimp := false) (disch := omega) only [wrap64]) | (refine Br.mk (fun h => ?_) (fun h => ?_) <;> try simp (dsimp := false) (disch := omega) only [wrap64]) | refine Ob.mk (by first | omega | (intro _ _; rfl) | trivial | (intros; trivial) | assumption | (intro i hi; have h0 : i = 0 := (by omega); subst h0; first | rfl | trivial) | (intro i hi; have h0 : i = 0 ∨ i = 1 := (by omega); rcases h0 with rfl | rfl <;> rfl) | (intro i hi; have h0 : i = 0 ∨ i = 1 ∨ i = 2 := (by omega); rcases h0 with rfl | rfl | rfl <;> rfl)) ?_ | apply_assumption -exfalso -symm)
  all_goals (first | (show endQ _ _ _ _ _ _ _; (repeat (rename (∀ (A : Fr) (H : Hp), AWP _ _ _ _ A H → _) => hK; clear hK)); (repeat (rename (Fr → Hp → Prop) => K; clear K))) | (show Exists _; (repeat (rename (∀ (A : Fr) (H : Hp), AWP _ _ _ _ A H → _) => hK; clear hK)); (repeat (rename (Fr → Hp → Prop) => K; clear K))) | skip)
  · refine ⟨k + 1, ?_, ?_, Sub.toL (by simp only [go_sem] <;> first | trivial | (simp only [Option.some.injEq, AV.v.injEq, AV.own.injEq, AV.list.injEq, Value.int.injEq, Value.bool.injEq, true_and, and_true]; first | omega | (simp; done)) | (simp; done) | (simp; omega)) (by (repeat' (first | exact Hp.le_emp _ | exact Hp.le_refl _ | refine Hp.le_upd ?_ ?_)); all_goals (first | rfl | (simp only [go_sem]; first | rfl | (refine cellsE ?_ ?_ <;> (first | omega | exact h3)) | (first | omega | exact h3))))⟩
    all_goals omega
  · have e : k = n := by omega
    subst e
    exact end_retI' rfl rfl rfl rfl rfl rfl

def isSv (p : Pz) (s : List Int) : Prop := isSt p s ∧ s = marks 0 s.length
instance (p : Pz) (s : List Int) : Decidable (isSv p s) := by unfold isSv; infer_instance

/- IsTrackedSet -/
def isTr (n : Int) (l : List Int) : Prop := 1 ≤ l.length ∧ ∀ j, j < l.length → (0 ≤ l.getD j 0 ∧ l.getD j 0 ≤ n - 1) ∧ (0 < j → l.getD (j - 1) 0 < l.getD j 0)
instance (n : Int) (l : List Int) : Decidable (isTr n l) := by unfold isTr; infer_instance
theorem isPz.n {p : Pz} (h : isPz p) : 1 ≤ p.n ∧ p.n ≤ 20 := h.1.1
/- IsPattern -/
def isDL (n : Int) (l : List Int) (m : Nat) : Prop := l.length = m ∧ ∀ j, j < l.length → (0 ≤ l.getD j 0 ∧ l.getD j 0 ≤ n - 1) ∧ l.getD j 0 ∉ l.take j
instance (n : Int) (l : List Int) (m : Nat) : Decidable (isDL n l m) := by unfold isDL; infer_instance

def isPat (p : Pz) (l q : List Int) : Prop := (isPz p ∧ isTr p.n l) ∧ isDL p.n q l.length
instance (p : Pz) (l q : List Int) : Decidable (isPat p l q) := by unfold isPat; infer_instance
theorem isPz.len {p : Pz} (h : isPz p) : p.m.length ≤ 1048576 := by have := h.1.2.1; omega
theorem isPz.in {p : Pz} (h : isPz p) : ∀ j, (p.m.getD j []).length ≤ 1048576 := by
  intro j
  by_cases hj : j < p.m.length
  · have h1 := h.1.2.2 j hj; have h2 := h1.2.1; omega
  · rw [List.getD_eq_getElem?_getD, List.getElem?_eq_none (by omega)]; simp

def isSame (a b : Pz) : Prop := isPz a ∧ isPz b ∧ a.n = b.n ∧ a.s.toList = b.s.toList ∧ a.m = b.m
instance (a b : Pz) : Decidable (isSame a b) := by unfold isSame; infer_instance
end Go.Proofs.Ytdllbnchcjgcdaa
end
section
namespace Go.Proofs.Ytdllbnchcjgcdaa
open Go.Av
set_option linter.unusedSimpArgs false
set_option linter.unusedVariables false
attribute [local irreducible] AWP CallG Ob Br BrP Go.Av.Sub endQ AOps OpV AC thenA blkA opsVC opVC withA withArgs opsQ opQ CallQ withA2 withArgs2

/- rows of rows of our own -/
theorem PR_zero (d n : Nat) (xss : List (List Int)) : Hp.le (PR d xss 0 n) (Hp.emp.upd d (.cells n (zF [.slice none 0 0]))) := by
  intro g B hB
  unfold PR at hB
  split at hB
  · rename_i e
    subst e
    simp only [Option.some.injEq] at hB
    subst hB
    simp only [Hp.upd, if_true, Option.some.injEq]
    congr 1
    funext i
    simp [zF, mixF, Nat.mod_one]
  · simp at hB

theorem toInt64SS_own (xss : List (List Int)) (hx : xss.length ≤ 1048576) (hb : ∀ j, (xss.getD j []).length ≤ 1048576) (d : Nat) (hd : d < 2097152) : AC Try.prog 78 [intss xss] Hp.emp (fun _ => false) (retII d xss) := by
  refine AC.famI (d0 := 7) ?_ d (by rw [FB_eq]; omega) hd (by rw [FB_eq]; omega) (fun _ => rfl)
  refine ac_of_awp (N := ⟨_, fun _ => false, fun _ _ => rfl⟩) Try.func78 rfl (by kernel_rfl) Try.ntmps78 (by simp) ?_
  simp only [argsFr, List.zipIdx_cons, List.zipIdx_nil, go_sem]
  repeat' (first | refine awp_seqK fun K hK => ?_ | (refine awp_regionK 2077 rfl ?_; simp only [List.map_cons, List.map_nil]; simp (maxSteps := 1000000) (dsimp := false) (implicitDefEqProofs := false) (disch := omega) only [wrap64, go_sem]) | (refine awp_regionQK 2077 (by kernel_rfl) (by kernel_rfl) (by kernel_rfl) ?_; simp only [List.map_cons, List.map_nil]; simp (maxSteps := 1000000) (dsimp := false) (implicitDefEqProofs := false) (disch := omega) only [wrap64, go_sem]) | refine awp_block ?_ | (refine awp_skip ?_; simp only [go_sem]) | (refine awp_exit ?_; simp only [go_sem]) | (refine awp_ret ?_; try simp only [go_sem]) | (refine awp_condP rfl ?_; try simp only [go_sem]) | (refine BrP.mk (fun h => ?_) (fun h => ?_) <;> try simp (dsimp := false) (disch := omega) only [wrap64]) | (refine Br.mk (fun h => ?_) (fun h => ?_) <;> try simp (dsimp := false) (disch := omega) only [wrap64]) | refine Ob.mk (by first | omega | (intro _ _; rfl) | trivial | (intros; trivial) | assumption | (intro i hi; have h0 : i = 0 := (by omega); subst h0; first | rfl | trivial) | (intro i hi; have h0 : i = 0 ∨ i = 1 := (by omega); rcases h0 with rfl | rfl <;> rfl) | (intro i hi; have h0 : i = 0 ∨ i = 1 ∨ i = 2 := (by omega); rcases h0 with rfl | rfl | rfl <;> rfl)) ?_ | apply_assumption -exfalso -symm)
  all_goals (first | (show endQ _ _ _ _ _ _ _; (repeat (rename (∀ (A : Fr) (H : Hp), AWP _ _ _ _ A H → _) => hK; clear hK)); (repeat (rename (Fr → Hp → Prop) => K; clear K))) | (show Exists _; (repeat (rename (∀ (A : Fr) (H : Hp), AWP _ _ _ _ A H → _) => hK; clear hK)); (repeat (rename (Fr → Hp → Prop) => K; clear K))) | skip)
  refine awp_loop (ι := Nat) (fun k => [(4, .v (.int .i64 (k))), (3, .own 7 0 1 xss.length), (0, .list false 1 (xss).length (cM ints [] (xss)))]) (fun k => PR 7 xss k xss.length) (fun k => k ≤ xss.length) (fun k => xss.length - k) 0 (Nat.zero_le _) (Sub.toL (by simp only [go_sem]; trivial) (PR_zero _ _ _)) ?_
  intro k hk
  have hps : ∀ n, (PR 7 xss n xss.length).scrub (· == 20) = PR 7 xss n xss.length := fun n => PR_scrub (by omega)
  repeat' (first | refine awp_seqK fun K hK => ?_ | (refine awp_regionK 2077 rfl ?_; simp only [List.map_cons, List.map_nil]; simp (maxSteps := 1000000) (dsimp := false) (implicitDefEqProofs := false) (disch := omega) only [wrap64, go_sem, hps, PR_self]) | (refine awp_regionQK 2077 (by kernel_rfl) (by kernel_rfl) (by kernel_rfl) ?_; simp only [List.map_cons, List.map_nil]; simp (maxSteps := 1000000) (dsimp := false) (implicitDefEqProofs := false) (disch := omega) only [wrap64, go_sem, hps, PR_self]) | refine awp_block ?_ | (refine awp_skip ?_; simp only [go_sem, hps, PR_self]) | (refine awp_exit ?_; simp only [go_sem, hps, PR_self]) | (refine awp_ret ?_; try simp only [go_sem, hps, PR_self]) | (refine awp_condP rfl ?_; try simp only [go_sem, hps, PR_self]) | (refine BrP.mk (fun h => ?_) (fun h => ?_) <;> try simp (dsimp := false) (disch := omega) only [wrap64]) | (refine Br.mk (fun h => ?_) (fun h => ?_) <;> try simp (dsimp := false) (disch := omega) only [wrap64]) | refine Ob.mk (by first | omega | (intro _ _; rfl) | trivial | (intros; trivial) | assumption | (intro i hi; have h0 : i = 0 := (by omega); subst h0; first | rfl | trivial) | (intro i hi; have h0 : i = 0 ∨ i = 1 := (by omega); rcases h0 with rfl | rfl <;> rfl) | (intro i hi; have h0 : i = 0 ∨ i = 1 ∨ i = 2 := (by omega); rcases h0 with rfl | rfl | rfl <;> rfl)) ?_ | ((first | ((first | refine atF (f := 26) ?_ | refine atQ (f := 26) ?_); (first | (refine cI (hac := toInt64S_ok _ (hb _) 20) (hK := ?_)) | (refine cQI (hac := toInt64S_ok _ (hb _) 20) (hK := ?_))))); simp (maxSteps := 1000000) (dsimp := false) (implicitDefEqProofs := false) (disch := omega) only [wrap64, go_sem, hps, PR_self]) | apply_assumption -exfalso -symm)
  all_goals (first | (show endQ _ _ _ _ _ _ _; (repeat (rename (∀ (A : Fr) (H : Hp), AWP _ _ _ _ A H → _) => hK; clear hK)); (repeat (rename (Fr → Hp → Prop) => K; clear K))) | (show Exists _; (repeat (rename (∀ (A : Fr) (H : Hp), AWP _ _ _ _ A H → _) => hK; clear hK)); (repeat (rename (Fr → Hp → Prop) => K; clear K))) | skip)
  · refine ⟨k + 1, by omega, by omega, ?_⟩
    rw [← Hp.emp_add 7 (k + 1) xss.length xss]
    exact Sub.absorb (d := 7) (e := 20) (k := k) (n := xss.length) (xss := xss) (H' := Hp.emp) (by omega) (by omega) (by omega) (by omega) (by omega) rfl (by first | rfl | (simp (disch := omega) only [Hp.upd_app, add_lit, add_self, PR_self, PR_lit, Nat.reduceEqDiff, ↓reduceIte]; first | done | rfl)) (fun i hi => by simp [setF, apF]; try omega) (by first | rfl | (simp (disch := omega) only [Hp.upd_app, add_lit, add_self, PR_self, PR_lit, Nat.reduceEqDiff, ↓reduceIte]; first | done | rfl)) (fun i hi => by have hge := sub_ge 7 i; rw [FB_eq] at hge; simp (disch := omega) only [Hp.upd_app, if_neg]; first | exact PR_sub (by rw [FB_eq]; omega) (by omega) (by rw [FB_eq]; omega) | exact add_sub (by rw [FB_eq]; omega) (by omega) (by rw [FB_eq]; omega)) (by simp only [go_sem] <;> first | trivial | (simp only [Option.some.injEq, AV.v.injEq, AV.own.injEq, AV.list.injEq, Value.int.injEq, Value.bool.injEq, true_and, and_true]; first | omega | (simp; done)) | (simp; done) | (simp; omega)) (by simp only [Fr.low, AV.low, and_true, true_and]; first | done | omega | trivial) (fun g B hB => by simp [Hp.emp] at hB)
  · have e : k = xss.length := by omega
    subst e
    exact end_retII rfl rfl rfl (Hp.le_refl _)

theorem toPuzzle_own (p : Pz) (hx : p.m.length ≤ 1048576) (hb : ∀ j, (p.m.getD j []).length ≤ 1048576) (d : Nat) (hd : d < 2097152) : AC Try.prog 25 [pz p] Hp.emp (fun _ => false) (retR d (pzo p d) p.m) := by
  refine AC.famR (d0 := 700) (a := pzo p) ?_ d (by omega) hd (by omega) (fun ρ => by simp only [List.map_cons, List.map_nil, pz_ren]) (fun ρ => pzo_ren p 700 ρ)
  refine ac_of_awp (N := ⟨_, fun _ => false, fun _ _ => rfl⟩) Try.func25 rfl (by kernel_rfl) Try.ntmps25 (by simp) ?_
  simp only [argsFr, List.zipIdx_cons, List.zipIdx_nil, go_sem]
  repeat' (first | refine awp_seqK fun K hK => ?_ | (refine awp_regionK 15 rfl ?_; simp only [List.map_cons, List.map_nil]; simp (maxSteps := 1000000) (dsimp := false) (implicitDefEqProofs := false) (disch := omega) only [wrap64, go_sem]) | (refine awp_regionQK 15 (by kernel_rfl) (by kernel_rfl) (by kernel_rfl) ?_; simp only [List.map_cons, List.map_nil]; simp (maxSteps := 1000000) (dsimp := false) (implicitDefEqProofs := false) (disch := omega) only [wrap64, go_sem]) | refine awp_block ?_ | (refine awp_skip ?_; simp only [go_sem]) | (refine awp_exit ?_; simp only [go_sem]) | (refine awp_ret ?_; try simp only [go_sem]) | (refine awp_condP rfl ?_; try simp only [go_sem]) | (refine BrP.mk (fun h => ?_) (fun h => ?_) <;> try simp (dsimp := false) (disch := omega) only [wrap64]) | (refine Br.mk (fun h => ?_) (fun h => ?_) <;> try simp (dsimp := false) (disch := omega) only [wrap64]) | refine Ob.mk (by first | omega | (intro _ _; rfl) | trivial | (intros; trivial) | assumption | (intro i hi; have h0 : i = 0 := (by omega); subst h0; first | rfl | trivial) | (intro i hi; have h0 : i = 0 ∨ i = 1 := (by omega); rcases h0 with rfl | rfl <;> rfl) | (intro i hi; have h0 : i = 0 ∨ i = 1 ∨ i = 2 := (by omega); rcases h0 with rfl | rfl | rfl <;> rfl)) ?_ | ((first | (refine callII (by (repeat' (first | exact FitsL.nil | exact Fits.refl _ | exact fits_I rfl trivial rfl rfl | exact fits_P rfl trivial rfl (by decide) | exact fits_T (by omega) (by omega) | exact fits_ref1 rfl trivial (by decide) trivial | exact FitsL.refl _ | refine fits_clo1 ?_ | refine FitsL.cons ?_ ?_ | refine Fits.clo (fun i _ => ?_) | exact fits_N rfl trivial | exact fits_I (by simp (disch := omega) only [go_sem, add_lit, Nat.reduceEqDiff, ↓reduceIte]) trivial rfl rfl | exact fits_pz (by (repeat' (first | exact HasRR.base (by omega) (by first | omega | assumption | (have := szP_len (by assumption); omega)) | exact HasRR.bare (by omega) (by first | omega | assumption) | refine HasRR.upd (by decide) (by decide) ?_ | refine HasRR.add (by decide) (by decide) (by first | omega | (have := szP_len (by assumption); omega)) (by decide) ?_)); first | done | fail) trivial (fun _ => trivial) | exact fits_RR (by (repeat' (first | exact HasRR.base (by omega) (by first | omega | assumption | (have := szP_len (by assumption); omega)) | exact HasRR.bare (by omega) (by first | omega | assumption) | refine HasRR.upd (by decide) (by decide) ?_ | refine HasRR.add (by decide) (by decide) (by first | omega | (have := szP_len (by assumption); omega)) (by decide) ?_)); first | done | fail) trivial (fun _ => trivial) rfl)); first | done | fail) (toInt64SS_own p.m hx hb 700 (by omega)) (by omega) (by omega) (fun _ _ => rfl) ?_)); simp (maxSteps := 1000000) (dsimp := false) (implicitDefEqProofs := false) (disch := omega) only [wrap64, go_sem]) | apply_assumption -exfalso -symm)
  all_goals (first | (show endQ _ _ _ _ _ _ _; (repeat (rename (∀ (A : Fr) (H : Hp), AWP _ _ _ _ A H → _) => hK; clear hK)); (repeat (rename (Fr → Hp → Prop) => K; clear K))) | (show Exists _; (repeat (rename (∀ (A : Fr) (H : Hp), AWP _ _ _ _ A H → _) => hK; clear hK)); (repeat (rename (Fr → Hp → Prop) => K; clear K))) | skip)
  refine end_retRC rfl rfl (by simp only [go_sem]; rfl) rfl (fun i hi => ?_) (HasRR.le ?_)
  · have h0 : i = 0 ∨ i = 1 ∨ i = 2 := by omega
    rcases h0 with rfl | rfl | rfl <;> rfl
  · exact HasRR.upd (by decide) (by decide) (HasRR.upd (by decide) (by decide) (HasRR.upd (by decide) (by decide) (HasRR.base (by omega) (by omega))))

/- marks -/
def tot (xss : List (List Int)) : Nat := (xss.map List.length).sum
theorem tot_snoc (xss : List (List Int)) (i : Nat) (h : i < xss.length) : tot (xss.take (i + 1)) = tot (xss.take i) + (xss.getD i []).length := by
  have e : xss.getD i [] = xss[i] := by simp [h]
  rw [List.take_succ_eq_append_getElem h, tot, tot, List.map_append, List.sum_append, e]
  simp
theorem tot_le (xss : List (List Int)) (i : Nat) : tot (xss.take i) ≤ tot xss := by
  induction xss generalizing i with
  | nil => simp [tot]
  | cons a r ih =>
    cases i with
    | zero => simp [tot]
    | succ i => have := ih i; simp only [tot, List.take_succ_cons, List.map_cons, List.sum_cons] at this ⊢; omega
def mkR : Nat → List (List Int) → List (List Int)
  | _, [] => []
  | k, x :: r => marks k x.length :: mkR (k + x.length) r
theorem mkR_length : ∀ (k : Nat) (xss : List (List Int)), (mkR k xss).length = xss.length
  | _, [] => rfl
  | k, x :: r => by simp [mkR, mkR_length]
theorem mkR_snoc : ∀ (k : Nat) (xss : List (List Int)) (x : List Int), mkR k (xss ++ [x]) = mkR k xss ++ [marks (k + tot xss) x.length]
  | k, [], x => by simp [mkR, tot]
  | k, y :: r, x => by
    have := mkR_snoc (k + y.length) r x
    simp only [List.cons_append, mkR, this, tot, List.map_cons, List.sum_cons, Nat.add_assoc]
/-- The rows once i of them are marked. -/
def mkI (k : Nat) (xss : List (List Int)) (i : Nat) : List (List Int) := mkR k (xss.take i) ++ xss.drop i
theorem mkI_length (k : Nat) (xss : List (List Int)) (i : Nat) : (mkI k xss i).length = xss.length := by simp [mkI, mkR_length]; omega
theorem mkI_get (k : Nat) (xss : List (List Int)) (i : Nat) (h : i < xss.length) : (mkI k xss i).getD i [] = xss.getD i [] := by
  have hl : (mkR k (xss.take i)).length = i := by rw [mkR_length]; simp; omega
  rw [mkI, List.getD_eq_getElem?_getD, List.getElem?_append_right (by omega), hl, Nat.sub_self, List.getElem?_drop, Nat.add_zero, List.getD_eq_getElem?_getD]
theorem mkI_step (k : Nat) (xss : List (List Int)) (i : Nat) (h : i < xss.length) : (mkI k xss i).set i (marks (k + tot (xss.take i)) (xss.getD i []).length) = mkI k xss (i + 1) := by
  have hl : (mkR k (xss.take i)).length = i := by rw [mkR_length]; simp; omega
  have e : xss.getD i [] = xss[i] := by simp [h]
  rw [mkI, mkI, List.set_append_right _ _ (by omega), hl, Nat.sub_self, List.drop_eq_getElem_cons h, List.set_cons_zero, List.take_succ_eq_append_getElem h, mkR_snoc, e]
  simp
theorem mkI_all (k : Nat) (xss : List (List Int)) : mkI k xss xss.length = mkR k xss := by simp [mkI]

theorem markInt64SS_ok (xss : List (List Int)) (k : Nat) (hx : xss.length ≤ 2097152) (hy : (mkR k xss).length ≤ 2097152) (hb : ∀ j, (xss.getD j []).length ≤ 1048576) (hk : k + tot xss ≤ 1099511627776) (h : Nat) (hh : h < 2097152) :
    AC Try.prog 42 [.own h 0 1 xss.length, .v (.int .i64 (k))] (RR h xss) (famB h) (postMM h (.v (.int .i64 (((k + tot xss : Nat) : Int)))) (mkR k xss)) := by
  have hx' : xss.length ≤ FB := by rw [FB_eq]; omega
  refine AC.famM (args := fun h => [.own h 0 1 xss.length, .v (.int .i64 (k))]) (h0 := 1000000) ?_ h ?_ ?_ ?_ ?_ ?_ ?_
  rotate_left
  · omega
  · assumption
  · assumption
  · assumption
  · intro ρ; simp only [List.map_cons, List.map_nil, AV.ren, pzo_ren]; try rfl
  · intro ρ; rfl
  refine ac_of_awp (N := ⟨_, famB 1000000, fun h hh => famB_low (Nat.lt_of_lt_of_le hh (by rw [FB_eq]; decide)) (Nat.ne_of_lt (Nat.lt_of_lt_of_le hh (by decide)))⟩) Try.func42 rfl (by kernel_rfl) Try.ntmps42 (by simp) ?_
  simp only [argsFr, List.zipIdx_cons, List.zipIdx_nil, go_sem]
  repeat' (first | refine awp_seqK fun K hK => ?_ | (refine awp_regionK 563 rfl ?_; simp only [List.map_cons, List.map_nil]; simp (maxSteps := 1000000) (dsimp := false) (implicitDefEqProofs := false) (disch := omega) only [wrap64, go_sem]) | (refine awp_regionQK 563 (by kernel_rfl) (by kernel_rfl) (by kernel_rfl) ?_; simp only [List.map_cons, List.map_nil]; simp (maxSteps := 1000000) (dsimp := false) (implicitDefEqProofs := false) (disch := omega) only [wrap64, go_sem]) | refine awp_block ?_ | (refine awp_skip ?_; simp only [go_sem]) | (refine awp_exit ?_; simp only [go_sem]) | (refine awp_ret ?_; try simp only [go_sem]) | (refine awp_condP rfl ?_; try simp only [go_sem]) | (refine BrP.mk (fun h => ?_) (fun h => ?_) <;> try simp (dsimp := false) (disch := omega) only [wrap64]) | (refine Br.mk (fun h => ?_) (fun h => ?_) <;> try simp (dsimp := false) (disch := omega) only [wrap64]) | refine Ob.mk (by first | omega | (intro _ _; rfl) | trivial | (intros; trivial) | assumption | (intro i hi; have h0 : i = 0 := (by omega); subst h0; first | rfl | trivial) | (intro i hi; have h0 : i = 0 ∨ i = 1 := (by omega); rcases h0 with rfl | rfl <;> rfl) | (intro i hi; have h0 : i = 0 ∨ i = 1 ∨ i = 2 := (by omega); rcases h0 with rfl | rfl | rfl <;> rfl)) ?_ | apply_assumption -exfalso -symm)
  all_goals (first | (show endQ _ _ _ _ _ _ _; (repeat (rename (∀ (A : Fr) (H : Hp), AWP _ _ _ _ A H → _) => hK; clear hK)); (repeat (rename (Fr → Hp → Prop) => K; clear K))) | (show Exists _; (repeat (rename (∀ (A : Fr) (H : Hp), AWP _ _ _ _ A H → _) => hK; clear hK)); (repeat (rename (Fr → Hp → Prop) => K; clear K))) | skip)
  have hI : ∀ i, (mkI k xss i).length = xss.length := mkI_length k xss
  have h0 : mkI k xss 0 = xss := by simp [mkI, mkR]
  refine awp_loop (ι := Nat) (fun i => [(5, .v (.int .i64 (i))), (0, .own 1000000 0 1 xss.length), (1, .v (.int .i64 ((k + tot (xss.take i) : Nat))))]) (fun i => RR 1000000 (mkI k xss i)) (fun i => i ≤ xss.length) (fun i => xss.length - i) 0 (Nat.zero_le _) (Sub.toL (by simp only [go_sem] <;> first | trivial | (simp only [Option.some.injEq, AV.v.injEq, AV.own.injEq, AV.list.injEq, Value.int.injEq, Value.bool.injEq, true_and, and_true]; first | omega | (simp [tot]; done)) | (simp [tot]; done) | (simp [tot]; omega)) (by rw [h0]; exact Hp.le_refl _)) ?_
  intro i hi
  have hmix : i < xss.length → mixF 1000000 (mkI k xss i) xss.length i = .own (sub 1000000 i) 0 1 (xss.getD i []).length := fun hlt => by rw [mixF_lt hlt, mkI_get k xss i hlt]
  have hsub : i < xss.length → (RR 1000000 (mkI k xss i)) (sub 1000000 i) = some (.cells (xss.getD i []).length (cM iv 0 (xss.getD i []))) := fun hlt => by
    have := PR_sub (d := 1000000) (xss := mkI k xss i) (n := (mkI k xss i).length) (k := (mkI k xss i).length) (by rw [FB_eq]; omega) (by rw [hI]; exact hlt) (by rw [hI]; exact hx')
    rw [mkI_get k xss i hlt] at this
    exact this
  have ht := tot_le xss i
  repeat' (first | refine awp_seqK fun K hK => ?_ | (refine awp_regionK 563 rfl ?_; simp only [List.map_cons, List.map_nil]; simp (maxSteps := 1000000) (dsimp := false) (implicitDefEqProofs := false) (disch := omega) only [wrap64, go_sem, hmix, PR_self, hI]) | (refine awp_regionQK 563 (by kernel_rfl) (by kernel_rfl) (by kernel_rfl) ?_; simp only [List.map_cons, List.map_nil]; simp (maxSteps := 1000000) (dsimp := false) (implicitDefEqProofs := false) (disch := omega) only [wrap64, go_sem, hmix, PR_self, hI]) | refine awp_block ?_ | (refine awp_skip ?_; simp only [go_sem, hmix, PR_self, hI]) | (refine awp_exit ?_; simp only [go_sem, hmix, PR_self, hI]) | (refine awp_ret ?_; try simp only [go_sem, hmix, PR_self, hI]) | (refine awp_condP rfl ?_; try simp only [go_sem, hmix, PR_self, hI]) | (refine BrP.mk (fun h => ?_) (fun h => ?_) <;> try simp (dsimp := false) (disch := omega) only [wrap64]) | (refine Br.mk (fun h => ?_) (fun h => ?_) <;> try simp (dsimp := false) (disch := omega) only [wrap64]) | refine Ob.mk (by first | omega | (intro _ _; rfl) | trivial | (intros; trivial) | assumption | (intro i hi; have h0 : i = 0 := (by omega); subst h0; first | rfl | trivial) | (intro i hi; have h0 : i = 0 ∨ i = 1 := (by omega); rcases h0 with rfl | rfl <;> rfl) | (intro i hi; have h0 : i = 0 ∨ i = 1 ∨ i = 2 := (by omega); rcases h0 with rfl | rfl | rfl <;> rfl)) ?_ | ((first | (refine callM (hsub (by omega)) (markInt64S_ok (xss.getD i []) (k + tot (xss.take i)) (hb i) (by omega) (sub 1000000 i)) (fun _ => rfl) (fun _ => rfl) ?_)); simp (maxSteps := 1000000) (dsimp := false) (implicitDefEqProofs := false) (disch := omega) only [wrap64, go_sem, hmix, PR_self, hI]) | apply_assumption -exfalso -symm)
  all_goals (first | (show endQ _ _ _ _ _ _ _; (repeat (rename (∀ (A : Fr) (H : Hp), AWP _ _ _ _ A H → _) => hK; clear hK)); (repeat (rename (Fr → Hp → Prop) => K; clear K))) | (show Exists _; (repeat (rename (∀ (A : Fr) (H : Hp), AWP _ _ _ _ A H → _) => hK; clear hK)); (repeat (rename (Fr → Hp → Prop) => K; clear K))) | skip)
  · have hlt : i < xss.length := by omega
    have ht3 := tot_snoc xss i hlt
    refine ⟨i + 1, by omega, by omega, Sub.toL (by simp only [go_sem] <;> first | trivial | (simp only [Option.some.injEq, AV.v.injEq, AV.own.injEq, AV.list.injEq, Value.int.injEq, Value.bool.injEq, true_and, and_true]; first | omega | (simp [ht3, Nat.add_assoc]; done)) | (simp [ht3, Nat.add_assoc]; done) | (simp [ht3, Nat.add_assoc]; omega)) ?_⟩
    have := RR_upd (d := 1000000) (i := i) (n := (xss.getD i []).length) (xss := mkI k xss i) (ys := marks (k + tot (xss.take i)) (xss.getD i []).length) (by omega) (by rw [hI]; exact hlt) (by rw [hI]; omega) (by rw [marks_length]) (by rw [marks_length, mkI_get k xss i hlt])
    rw [mkI_step k xss i hlt] at this
    rw [← this]
    exact Hp.le_refl _
  · have e : i = xss.length := by omega
    subst e
    rw [mkI_all]
    refine end_MM rfl rfl (Hp.le_refl _) ?_
    rw [List.take_length]

theorem szGo_tot : ∀ (xss : List (List Int)) (l : Int), 0 ≤ l → ¬ szGo xss l < 0 → (tot xss : Int) ≤ l
  | [], l, h0, _ => by simpa [tot] using h0
  | a :: r, l, h0, h => by
    simp only [szGo] at h
    split at h
    · exact absurd (by omega) h
    · rename_i h1
      have h2 : szI a l = l - a.length := by
        unfold szI at h1 ⊢
        split
        · rename_i h2; rw [if_pos h2] at h1; omega
        · rfl
      have h3 := szGo_tot r (szI a l) (by omega) h
      have h4 : tot (a :: r) = a.length + tot r := by simp [tot]
      omega
theorem szP_tot {p : Pz} (h : ¬ szP p 1048576 < 0) : tot p.m ≤ 1048576 := by
  unfold szP at h
  split at h
  · omega
  · split at h
    · omega
    · rename_i h1 h2
      unfold szII at h2
      split at h2
      · omega
      · have := szGo_tot p.m _ (by omega) h2
        omega

theorem markPuzzle_ok (p : Pz) (k : Nat) (hx : p.m.length ≤ 2097152) (hy : (mkR k p.m).length ≤ 2097152) (hb : ∀ j, (p.m.getD j []).length ≤ 1048576) (hk : k + tot p.m ≤ 1099511627776) (h : Nat) (hh : h < 2097152) :
    AC Try.prog 30 [pzo p h, .v (.int .i64 (k))] (RR h p.m) (famB h) (postMM h (.v (.int .i64 (((k + tot p.m : Nat) : Int)))) (mkR k p.m)) := by
  refine AC.famM (args := fun h => [pzo p h, .v (.int .i64 (k))]) (h0 := 1000000) ?_ h ?_ ?_ ?_ ?_ ?_ ?_
  rotate_left
  · omega
  · assumption
  · assumption
  · assumption
  · intro ρ; simp only [List.map_cons, List.map_nil, AV.ren, pzo_ren]; try rfl
  · intro ρ; rfl
  refine ac_of_awp (N := ⟨_, famB 1000000, fun h hh => famB_low (Nat.lt_of_lt_of_le hh (by rw [FB_eq]; decide)) (Nat.ne_of_lt (Nat.lt_of_lt_of_le hh (by decide)))⟩) Try.func30 rfl (by kernel_rfl) Try.ntmps30 (by simp) ?_
  simp only [argsFr, List.zipIdx_cons, List.zipIdx_nil, go_sem]
  repeat' (first | refine awp_seqK fun K hK => ?_ | (refine awp_regionK 23 rfl ?_; simp only [List.map_cons, List.map_nil]; simp (maxSteps := 1000000) (dsimp := false) (implicitDefEqProofs := false) (disch := omega) only [wrap64, go_sem]) | (refine awp_regionQK 23 (by kernel_rfl) (by kernel_rfl) (by kernel_rfl) ?_; simp only [List.map_cons, List.map_nil]; simp (maxSteps := 1000000) (dsimp := false) (implicitDefEqProofs := false) (disch := omega) only [wrap64, go_sem]) | refine awp_block ?_ | (refine awp_skip ?_; simp only [go_sem]) | (refine awp_exit ?_; simp only [go_sem]) | (refine awp_ret ?_; try simp only [go_sem]) | (refine awp_condP rfl ?_; try simp only [go_sem]) | (refine BrP.mk (fun h => ?_) (fun h => ?_) <;> try simp (dsimp := false) (disch := omega) only [wrap64]) | (refine Br.mk (fun h => ?_) (fun h => ?_) <;> try simp (dsimp := false) (disch := omega) only [wrap64]) | refine Ob.mk (by first | omega | (intro _ _; rfl) | trivial | (intros; trivial) | assumption | (intro i hi; have h0 : i = 0 := (by omega); subst h0; first | rfl | trivial) | (intro i hi; have h0 : i = 0 ∨ i = 1 := (by omega); rcases h0 with rfl | rfl <;> rfl) | (intro i hi; have h0 : i = 0 ∨ i = 1 ∨ i = 2 := (by omega); rcases h0 with rfl | rfl | rfl <;> rfl)) ?_ | ((first | (refine callMM (HasRR.upd (by decide) (by decide) (HasRR.bare (by omega) hx)) (markInt64SS_ok p.m k hx hy hb hk 1000000 (by omega)) (by rw [mkR_length]) (by omega) hx (fun _ => rfl) ?_)); simp (maxSteps := 1000000) (dsimp := false) (implicitDefEqProofs := false) (disch := omega) only [wrap64, go_sem]) | apply_assumption -exfalso -symm)
  all_goals (first | (show endQ _ _ _ _ _ _ _; (repeat (rename (∀ (A : Fr) (H : Hp), AWP _ _ _ _ A H → _) => hK; clear hK)); (repeat (rename (Fr → Hp → Prop) => K; clear K))) | (show Exists _; (repeat (rename (∀ (A : Fr) (H : Hp), AWP _ _ _ _ A H → _) => hK; clear hK)); (repeat (rename (Fr → Hp → Prop) => K; clear K))) | skip)
  refine end_MM rfl rfl (HasRR.le (HasRR.base (by omega) (by omega))) rfl

theorem mkR_get : ∀ (xss : List (List Int)) (k i : Nat), i < xss.length → (mkR k xss).getD i [] = marks (k + tot (xss.take i)) (xss.getD i []).length
  | [], _, _, h => by simp at h
  | x :: r, k, 0, _ => by simp [mkR, tot]
  | x :: r, k, i + 1, h => by
    have := mkR_get r (k + x.length) i (by simpa using h)
    simp only [mkR, List.getD_cons_succ, this, tot, List.take_succ_cons, List.map_cons, List.sum_cons, Nat.add_assoc]

theorem heldInt64SS_ok (xss : List (List Int)) (k : Nat) (hx : xss.length ≤ 1048576) (hb : ∀ j, (xss.getD j []).length ≤ 1048576) (hk : k + tot xss ≤ 1099511627776) :
    AC Try.prog 43 [intss xss, .v (.int .i64 (k))] Hp.emp (fun _ => false) (retV (.v (.int .i64 (if xss = mkR k xss then ((k + tot xss : Nat) : Int) else -1)))) := by
  refine ac_of_awp (N := ⟨_, fun _ => false, fun _ _ => rfl⟩) Try.func43 rfl (by kernel_rfl) Try.ntmps43 (by simp) ?_
  simp only [argsFr, List.zipIdx_cons, List.zipIdx_nil, go_sem]
  repeat' (first | refine awp_seqK fun K hK => ?_ | (refine awp_regionK 524851 rfl ?_; simp only [List.map_cons, List.map_nil]; simp (maxSteps := 1000000) (dsimp := false) (implicitDefEqProofs := false) (disch := omega) only [wrap64, go_sem]) | (refine awp_regionQK 524851 (by kernel_rfl) (by kernel_rfl) (by kernel_rfl) ?_; simp only [List.map_cons, List.map_nil]; simp (maxSteps := 1000000) (dsimp := false) (implicitDefEqProofs := false) (disch := omega) only [wrap64, go_sem]) | refine awp_block ?_ | (refine awp_skip ?_; simp only [go_sem]) | (refine awp_exit ?_; simp only [go_sem]) | (refine awp_ret ?_; try simp only [go_sem]) | (refine awp_condP rfl ?_; try simp only [go_sem]) | (refine BrP.mk (fun h => ?_) (fun h => ?_) <;> try simp (dsimp := false) (disch := omega) only [wrap64]) | (refine Br.mk (fun h => ?_) (fun h => ?_) <;> try simp (dsimp := false) (disch := omega) only [wrap64]) | refine Ob.mk (by first | omega | (intro _ _; rfl) | trivial | (intros; trivial) | assumption | (intro i hi; have h0 : i = 0 := (by omega); subst h0; first | rfl | trivial) | (intro i hi; have h0 : i = 0 ∨ i = 1 := (by omega); rcases h0 with rfl | rfl <;> rfl) | (intro i hi; have h0 : i = 0 ∨ i = 1 ∨ i = 2 := (by omega); rcases h0 with rfl | rfl | rfl <;> rfl)) ?_ | apply_assumption -exfalso -symm)
  all_goals (first | (show endQ _ _ _ _ _ _ _; (repeat (rename (∀ (A : Fr) (H : Hp), AWP _ _ _ _ A H → _) => hK; clear hK)); (repeat (rename (Fr → Hp → Prop) => K; clear K))) | (show Exists _; (repeat (rename (∀ (A : Fr) (H : Hp), AWP _ _ _ _ A H → _) => hK; clear hK)); (repeat (rename (Fr → Hp → Prop) => K; clear K))) | skip)
  refine awp_loop (ι := Nat) (fun i => [(5, .v (.int .i64 (i))), (0, .list false 1 (xss).length (cM ints [] (xss))), (1, .v (.int .i64 ((k + tot (xss.take i) : Nat))))]) (fun i => Hp.emp) (fun i => i ≤ xss.length ∧ xss.take i = mkR k (xss.take i)) (fun i => xss.length - i) 0 ?_ (Sub.toL (by simp only [go_sem] <;> first | trivial | (simp only [Option.some.injEq, AV.v.injEq, AV.own.injEq, AV.list.injEq, Value.int.injEq, Value.bool.injEq, true_and, and_true]; first | omega | (simp [tot]; done)) | (simp [tot]; done) | (simp [tot]; omega)) (by (repeat' (first | exact Hp.le_emp _ | exact Hp.le_refl _ | refine Hp.le_upd ?_ ?_)); all_goals (first | rfl | (simp only [go_sem]; first | rfl | (refine cellsE ?_ ?_ <;> (simp [tot])) | (simp [tot]))))) ?_
  · exact ⟨Nat.zero_le _, rfl⟩
  intro i hi
  have ht := tot_le xss i
  repeat' (first | refine awp_seqK fun K hK => ?_ | (refine awp_regionK 524851 rfl ?_; simp only [List.map_cons, List.map_nil]; simp (maxSteps := 1000000) (dsimp := false) (implicitDefEqProofs := false) (disch := omega) only [wrap64, go_sem]) | (refine awp_regionQK 524851 (by kernel_rfl) (by kernel_rfl) (by kernel_rfl) ?_; simp only [List.map_cons, List.map_nil]; simp (maxSteps := 1000000) (dsimp := false) (implicitDefEqProofs := false) (disch := omega) only [wrap64, go_sem]) | refine awp_block ?_ | (refine awp_skip ?_; simp only [go_sem]) | (refine awp_exit ?_; simp only [go_sem]) | (refine awp_ret ?_; try simp only [go_sem]) | (refine awp_condP rfl ?_; try simp only [go_sem]) | (refine BrP.mk (fun h => ?_) (fun h => ?_) <;> try simp (dsimp := false) (disch := omega) only [wrap64]) | (refine Br.mk (fun h => ?_) (fun h => ?_) <;> try simp (dsimp := false) (disch := omega) only [wrap64]) | refine Ob.mk (by first | omega | (intro _ _; rfl) | trivial | (intros; trivial) | assumption | (intro i hi; have h0 : i = 0 := (by omega); subst h0; first | rfl | trivial) | (intro i hi; have h0 : i = 0 ∨ i = 1 := (by omega); rcases h0 with rfl | rfl <;> rfl) | (intro i hi; have h0 : i = 0 ∨ i = 1 ∨ i = 2 := (by omega); rcases h0 with rfl | rfl | rfl <;> rfl)) ?_ | ((first | ((first | refine atF (f := 32) ?_ | refine atQ (f := 32) ?_); (first | (refine cV (hac := heldInt64S_ok (xss.getD i []) (k + tot (xss.take i)) (hb i) (by omega)) (hK := ?_)) | (refine cQV (hac := heldInt64S_ok (xss.getD i []) (k + tot (xss.take i)) (hb i) (by omega)) (hK := ?_))))); simp (maxSteps := 1000000) (dsimp := false) (implicitDefEqProofs := false) (disch := omega) only [wrap64, go_sem]) | apply_assumption -exfalso -symm)
  all_goals (first | (show endQ _ _ _ _ _ _ _; (repeat (rename (∀ (A : Fr) (H : Hp), AWP _ _ _ _ A H → _) => hK; clear hK)); (repeat (rename (Fr → Hp → Prop) => K; clear K))) | (show Exists _; (repeat (rename (∀ (A : Fr) (H : Hp), AWP _ _ _ _ A H → _) => hK; clear hK)); (repeat (rename (Fr → Hp → Prop) => K; clear K))) | skip)
  · refine end_retN rfl rfl ?_
    have hlt : i < xss.length := by omega
    have hc : ¬ xss.getD i [] = marks (k + tot (xss.take i)) (xss.getD i []).length := by
      intro hc; rw [if_pos hc] at *; omega
    rw [if_neg]
    intro e
    refine hc ?_
    have h3 := mkR_get xss k i hlt
    rw [← e] at h3
    exact h3
  · have hlt : i < xss.length := by omega
    have hc : xss.getD i [] = marks (k + tot (xss.take i)) (xss.getD i []).length := by
      by_cases hc : xss.getD i [] = marks (k + tot (xss.take i)) (xss.getD i []).length
      · exact hc
      · rw [if_neg hc] at *; omega
    have ht3 := tot_snoc xss i hlt
    rw [if_pos hc]
    refine ⟨i + 1, ⟨by omega, ?_⟩, by omega, Sub.toL (by simp only [go_sem] <;> first | trivial | (simp only [Option.some.injEq, AV.v.injEq, AV.own.injEq, AV.list.injEq, Value.int.injEq, Value.bool.injEq, true_and, and_true]; first | omega | (simp [ht3, Nat.add_assoc]; done)) | (simp [ht3, Nat.add_assoc]; done) | (simp [ht3, Nat.add_assoc]; omega)) (Hp.le_refl _)⟩
    have e : xss.getD i [] = xss[i] := by simp [hlt]
    rw [List.take_succ_eq_append_getElem hlt, mkR_snoc, ← hi.2, ← e, ← hc]
  · have e : i = xss.length := by omega
    subst e
    refine end_retN rfl rfl ?_
    have h3 := hi.2
    rw [List.take_length] at h3
    rw [if_pos h3, List.take_length]

theorem held_marks (n k : Nat) (hn : n ≤ 1048576) (hk : k ≤ 1099511627776) : AC Try.prog 32 [.list false 1 n (cM iv 0 (marks k n)), .v (.int .i64 (k))] Hp.emp (fun _ => false) (retV (.v (.int .i64 (((k + n : Nat) : Int))))) := by
  have := heldInt64S_ok (marks k n) k (by rw [marks_length]; exact hn) hk
  unfold ints at this
  rw [marks_length] at this
  simpa using this

end Go.Proofs.Ytdllbnchcjgcdaa
end
section
namespace Go.Proofs.Ytdllbnchcjgcdaa
open Go.Av
set_option linter.unusedSimpArgs false
set_option linter.unusedVariables false
attribute [local irreducible] AWP CallG Ob Br BrP Go.Av.Sub endQ AOps OpV AC thenA blkA opsVC opVC withA withArgs opsQ opQ CallQ withA2 withArgs2

/- Letters -/
def lets : Nat → List Int
  | 0 => []
  | n + 1 => lets n ++ [((n : Nat) : Int) + 1, -(((n : Nat) : Int) + 1)]
theorem lets_length (n : Nat) : (lets n).length = 2 * n := by
  induction n with
  | zero => rfl
  | succ n ih => simp [lets, ih]; omega

theorem lettersOf_ok (p : Pz) (hx : p.m.length ≤ 1048576) (d : Nat) : AC Try.prog 109 [pz p] Hp.emp (fun _ => false) (retI d (lets p.m.length)) := by
  refine ac_of_awp (N := ⟨_, fun _ => false, fun _ _ => rfl⟩) Try.func109 rfl (by kernel_rfl) Try.ntmps109 (by simp) ?_
  simp only [argsFr, List.zipIdx_cons, List.zipIdx_nil, go_sem]
  repeat' (first | refine awp_seqK fun K hK => ?_ | (refine awp_regionK 1055 rfl ?_; simp only [List.map_cons, List.map_nil]; simp (maxSteps := 1000000) (dsimp := false) (implicitDefEqProofs := false) (disch := omega) only [wrap64, go_sem]) | (refine awp_regionQK 1055 (by kernel_rfl) (by kernel_rfl) (by kernel_rfl) ?_; simp only [List.map_cons, List.map_nil]; simp (maxSteps := 1000000) (dsimp := false) (implicitDefEqProofs := false) (disch := omega) only [wrap64, go_sem]) | refine awp_block ?_ | (refine awp_skip ?_; simp only [go_sem]) | (refine awp_exit ?_; simp only [go_sem]) | (refine awp_ret ?_; try simp only [go_sem]) | (refine awp_condP rfl ?_; try simp only [go_sem]) | (refine BrP.mk (fun h => ?_) (fun h => ?_) <;> try simp (dsimp := false) (disch := omega) only [wrap64]) | (refine Br.mk (fun h => ?_) (fun h => ?_) <;> try simp (dsimp := false) (disch := omega) only [wrap64]) | refine Ob.mk (by first | omega | (intro _ _; rfl) | trivial | (intros; trivial) | assumption | (intro i hi; have h0 : i = 0 := (by omega); subst h0; first | rfl | trivial) | (intro i hi; have h0 : i = 0 ∨ i = 1 := (by omega); rcases h0 with rfl | rfl <;> rfl) | (intro i hi; have h0 : i = 0 ∨ i = 1 ∨ i = 2 := (by omega); rcases h0 with rfl | rfl | rfl <;> rfl)) ?_ | apply_assumption -exfalso -symm)
  all_goals (first | (show endQ _ _ _ _ _ _ _; (repeat (rename (∀ (A : Fr) (H : Hp), AWP _ _ _ _ A H → _) => hK; clear hK)); (repeat (rename (Fr → Hp → Prop) => K; clear K))) | (show Exists _; (repeat (rename (∀ (A : Fr) (H : Hp), AWP _ _ _ _ A H → _) => hK; clear hK)); (repeat (rename (Fr → Hp → Prop) => K; clear K))) | skip)
  refine awp_loop (ι := Nat) (fun k => [(4, .v (.int .i64 ((k : Int) + 1))), (3, .own 5 0 1 (lets k).length), (1, .ref 1 0)]) (fun k => (Hp.emp.upd 1 (.cells 3 (vecF [.v (.int .i64 p.n), .v (.string p.s), .list false 1 (p.m).length (cM ints [] (p.m))]))).upd 5 (.cells (lets k).length (cM iv 0 (lets k)))) (fun k => k ≤ p.m.length) (fun k => p.m.length - k) 0 ?_ (Sub.toL (by simp only [go_sem] <;> first | trivial | (simp only [Option.some.injEq, AV.v.injEq, AV.own.injEq, AV.list.injEq, Value.int.injEq, Value.bool.injEq, true_and, and_true]; first | omega | (simp [lets]; done)) | (simp [lets]; done) | (simp [lets]; omega)) (by (repeat' (first | exact Hp.le_emp _ | exact Hp.le_refl _ | refine Hp.le_upd ?_ ?_)); all_goals (first | rfl | (simp only [go_sem]; first | rfl | (refine cellsE ?_ ?_ <;> (simp [lets])) | (simp [lets]))))) ?_
  · exact Nat.zero_le _
  intro k hk
  have h1 := lets_length k
  have h2 := lets_length (k + 1)
  have h3 : lets k ++ [(k : Int) + 1, 0 - ((k : Int) + 1)] = lets (k + 1) := by rw [Int.zero_sub]; rfl
  repeat' (first | refine awp_seqK fun K hK => ?_ | (refine awp_regionK 1055 rfl ?_; simp only [List.map_cons, List.map_nil]; simp (maxSteps := 1000000) (dsimp := false) (implicitDefEqProofs := false) (disch := omega) only [wrap64, go_sem]) | (refine awp_regionQK 1055 (by kernel_rfl) (by kernel_rfl) (by kernel_rfl) ?_; simp only [List.map_cons, List.map_nil]; simp (maxSteps := 1000000) (dsimp := false) (implicitDefEqProofs := false) (disch := omega) only [wrap64, go_sem]) | refine awp_block ?_ | (refine awp_skip ?_; simp only [go_sem]) | (refine awp_exit ?_; simp only [go_sem]) | (refine awp_ret ?_; try simp only [go_sem]) | (refine awp_condP rfl ?_; try simp only [go_sem]) | (refine BrP.mk (fun h => ?_) (fun h => ?_) <;> try simp (dsimp := false) (disch := omega) only [wrap64]) | (refine Br.mk (fun h => ?_) (fun h => ?_) <;> try simp (dsimp := false) (disch := omega) only [wrap64]) | refine Ob.mk (by first | omega | (intro _ _; rfl) | trivial | (intros; trivial) | assumption | (intro i hi; have h0 : i = 0 := (by omega); subst h0; first | rfl | trivial) | (intro i hi; have h0 : i = 0 ∨ i = 1 := (by omega); rcases h0 with rfl | rfl <;> rfl) | (intro i hi; have h0 : i = 0 ∨ i = 1 ∨ i = 2 := (by omega); rcases h0 with rfl | rfl | rfl <;> rfl)) ?_ | apply_assumption -exfalso -symm)
  all_goals (first | (show endQ _ _ _ _ _ _ _; (repeat (rename (∀ (A : Fr) (H : Hp), AWP _ _ _ _ A H → _) => hK; clear hK)); (repeat (rename (Fr → Hp → Prop) => K; clear K))) | (show Exists _; (repeat (rename (∀ (A : Fr) (H : Hp), AWP _ _ _ _ A H → _) => hK; clear hK)); (repeat (rename (Fr → Hp → Prop) => K; clear K))) | skip)
  · refine ⟨k + 1, ?_, ?_, Sub.toL (by simp only [go_sem] <;> first | trivial | (simp only [Option.some.injEq, AV.v.injEq, AV.own.injEq, AV.list.injEq, Value.int.injEq, Value.bool.injEq, true_and, and_true]; first | omega | (simp; done)) | (simp; done) | (simp; omega)) (by (repeat' (first | exact Hp.le_emp _ | exact Hp.le_refl _ | refine Hp.le_upd ?_ ?_)); all_goals (first | rfl | (simp only [go_sem]; first | rfl | (refine cellsE ?_ ?_ <;> (first | omega | exact h3)) | (first | omega | exact h3))))⟩
    all_goals omega
  · have e : k = p.m.length := by omega
    subst e
    exact end_retI' rfl rfl rfl rfl rfl rfl

theorem letters_ok (m : Nat) (hm : m ≤ 1048576) (d : Nat) : AC Try.prog 148 [.v (.int .i64 (m))] Hp.emp (fun _ => false) (retI d (lets m)) := by
  refine ac_of_awp (N := ⟨_, fun _ => false, fun _ _ => rfl⟩) Try.func148 rfl (by kernel_rfl) Try.ntmps148 (by simp) ?_
  simp only [argsFr, List.zipIdx_cons, List.zipIdx_nil, go_sem]
  repeat' (first | refine awp_seqK fun K hK => ?_ | (refine awp_regionK 253 rfl ?_; simp only [List.map_cons, List.map_nil]; simp (maxSteps := 1000000) (dsimp := false) (implicitDefEqProofs := false) (disch := omega) only [wrap64, go_sem]) | (refine awp_regionQK 253 (by kernel_rfl) (by kernel_rfl) (by kernel_rfl) ?_; simp only [List.map_cons, List.map_nil]; simp (maxSteps := 1000000) (dsimp := false) (implicitDefEqProofs := false) (disch := omega) only [wrap64, go_sem]) | refine awp_block ?_ | (refine awp_skip ?_; simp only [go_sem]) | (refine awp_exit ?_; simp only [go_sem]) | (refine awp_ret ?_; try simp only [go_sem]) | (refine awp_condP rfl ?_; try simp only [go_sem]) | (refine BrP.mk (fun h => ?_) (fun h => ?_) <;> try simp (dsimp := false) (disch := omega) only [wrap64]) | (refine Br.mk (fun h => ?_) (fun h => ?_) <;> try simp (dsimp := false) (disch := omega) only [wrap64]) | refine Ob.mk (by first | omega | (intro _ _; rfl) | trivial | (intros; trivial) | assumption | (intro i hi; have h0 : i = 0 := (by omega); subst h0; first | rfl | trivial) | (intro i hi; have h0 : i = 0 ∨ i = 1 := (by omega); rcases h0 with rfl | rfl <;> rfl) | (intro i hi; have h0 : i = 0 ∨ i = 1 ∨ i = 2 := (by omega); rcases h0 with rfl | rfl | rfl <;> rfl)) ?_ | apply_assumption -exfalso -symm)
  all_goals (first | (show endQ _ _ _ _ _ _ _; (repeat (rename (∀ (A : Fr) (H : Hp), AWP _ _ _ _ A H → _) => hK; clear hK)); (repeat (rename (Fr → Hp → Prop) => K; clear K))) | (show Exists _; (repeat (rename (∀ (A : Fr) (H : Hp), AWP _ _ _ _ A H → _) => hK; clear hK)); (repeat (rename (Fr → Hp → Prop) => K; clear K))) | skip)
  refine awp_loop (ι := Nat) (fun k => [(6, .v (.int .i64 (k))), (5, .v (.int .i64 (m))), (3, .own 16 0 1 (lets k).length)]) (fun k => Hp.emp.upd 16 (.cells (lets k).length (cM iv 0 (lets k)))) (fun k => k ≤ m) (fun k => m - k) 0 ?_ (Sub.trans (Sub.nil (i := 3) 16 1 (cM iv 0 []) rfl rfl) (Sub.toL (by simp only [go_sem] <;> first | trivial | (simp only [Option.some.injEq, AV.v.injEq, AV.own.injEq, AV.list.injEq, Value.int.injEq, Value.bool.injEq, true_and, and_true]; first | omega | (simp [lets]; done)) | (simp [lets]; done) | (simp [lets]; omega)) (by (repeat' (first | exact Hp.le_emp _ | exact Hp.le_refl _ | refine Hp.le_upd ?_ ?_)); all_goals (first | rfl | (simp only [go_sem]; first | rfl | (refine cellsE ?_ ?_ <;> (simp [lets])) | (simp [lets])))))) ?_
  · exact Nat.zero_le _
  intro k hk
  have h1 := lets_length k
  have h2 := lets_length (k + 1)
  have h3 : lets k ++ [(k : Int) + 1, 0 - ((k : Int) + 1)] = lets (k + 1) := by rw [Int.zero_sub]; rfl
  repeat' (first | refine awp_seqK fun K hK => ?_ | (refine awp_regionK 253 rfl ?_; simp only [List.map_cons, List.map_nil]; simp (maxSteps := 1000000) (dsimp := false) (implicitDefEqProofs := false) (disch := omega) only [wrap64, go_sem]) | (refine awp_regionQK 253 (by kernel_rfl) (by kernel_rfl) (by kernel_rfl) ?_; simp only [List.map_cons, List.map_nil]; simp (maxSteps := 1000000) (dsimp := false) (implicitDefEqProofs := false) (disch := omega) only [wrap64, go_sem]) | refine awp_block ?_ | (refine awp_skip ?_; simp only [go_sem]) | (refine awp_exit ?_; simp only [go_sem]) | (refine awp_ret ?_; try simp only [go_sem]) | (refine awp_condP rfl ?_; try simp only [go_sem]) | (refine BrP.mk (fun h => ?_) (fun h => ?_) <;> try simp (dsimp := false) (disch := omega) only [wrap64]) | (refine Br.mk (fun h => ?_) (fun h => ?_) <;> try simp (dsimp := false) (disch := omega) only [wrap64]) | refine Ob.mk (by first | omega | (intro _ _; rfl) | trivial | (intros; trivial) | assumption | (intro i hi; have h0 : i = 0 := (by omega); subst h0; first | rfl | trivial) | (intro i hi; have h0 : i = 0 ∨ i = 1 := (by omega); rcases h0 with rfl | rfl <;> rfl) | (intro i hi; have h0 : i = 0 ∨ i = 1 ∨ i = 2 := (by omega); rcases h0 with rfl | rfl | rfl <;> rfl)) ?_ | apply_assumption -exfalso -symm)
  all_goals (first | (show endQ _ _ _ _ _ _ _; (repeat (rename (∀ (A : Fr) (H : Hp), AWP _ _ _ _ A H → _) => hK; clear hK)); (repeat (rename (Fr → Hp → Prop) => K; clear K))) | (show Exists _; (repeat (rename (∀ (A : Fr) (H : Hp), AWP _ _ _ _ A H → _) => hK; clear hK)); (repeat (rename (Fr → Hp → Prop) => K; clear K))) | skip)
  · refine ⟨k + 1, ?_, ?_, Sub.toL (by simp only [go_sem] <;> first | trivial | (simp only [Option.some.injEq, AV.v.injEq, AV.own.injEq, AV.list.injEq, Value.int.injEq, Value.bool.injEq, true_and, and_true]; first | omega | (simp; done)) | (simp; done) | (simp; omega)) (by (repeat' (first | exact Hp.le_emp _ | exact Hp.le_refl _ | refine Hp.le_upd ?_ ?_)); all_goals (first | rfl | (simp only [go_sem]; first | rfl | (refine cellsE ?_ ?_ <;> (first | omega | exact h3)) | (first | omega | exact h3))))⟩
    all_goals omega
  · have e : k = m := by omega
    subst e
    exact end_retI' rfl rfl rfl rfl rfl rfl

end Go.Proofs.Ytdllbnchcjgcdaa
end
section
namespace Go.Proofs.Ytdllbnchcjgcdaa
open Go.Av
set_option linter.unusedSimpArgs false
set_option linter.unusedVariables false
attribute [local irreducible] AWP CallG Ob Br BrP Go.Av.Sub endQ AOps OpV AC thenA blkA opsVC opVC withA withArgs opsQ opQ CallQ withA2 withArgs2

/- PatternOf -/
def pick (s l : List Int) : List Int := l.map fun x => s.getD x.toNat 0
theorem pick_length (s l : List Int) : (pick s l).length = l.length := by simp [pick]
theorem pick_step (s l : List Int) (k : Nat) (h : k < l.length) : pick s (l.take k) ++ [s.getD (l.getD k 0).toNat 0] = pick s (l.take (k + 1)) := by
  have e : l.getD k 0 = l[k] := by simp [h]
  rw [e, List.take_succ_eq_append_getElem h]
  unfold pick
  rw [List.map_append]
  rfl
theorem pick_set (s l : List Int) (k : Nat) (h : k < l.length) : (pick s (l.take k) ++ List.replicate (l.length - k) 0).set k (s.getD (l.getD k 0).toNat 0) = pick s (l.take (k + 1)) ++ List.replicate (l.length - (k + 1)) 0 := by
  rw [← pick_step s l k h, List.set_append_right _ _ (by simp [pick]; omega)]
  simp only [pick_length, List.length_take, Nat.min_eq_left (Nat.le_of_lt h), Nat.sub_self, List.append_assoc]
  rw [show l.length - k = (l.length - (k + 1)) + 1 by omega, List.replicate_succ, List.set_cons_zero]
  rfl

end Go.Proofs.Ytdllbnchcjgcdaa
end
section
namespace Go.Proofs.Ytdllbnchcjgcdaa
open Go.Av
set_option linter.unusedSimpArgs false
set_option linter.unusedVariables false
attribute [local irreducible] AWP CallG Ob Br BrP Go.Av.Sub endQ AOps OpV AC thenA blkA opsVC opVC withA withArgs opsQ opQ CallQ withA2 withArgs2

end Go.Proofs.Ytdllbnchcjgcdaa
end
section
namespace Go.Proofs.Ytdllbnchcjgcdaa
open Go.Av
set_option linter.unusedSimpArgs false
set_option linter.unusedVariables false
attribute [local irreducible] AWP CallG Ob Br BrP Go.Av.Sub endQ AOps OpV AC thenA blkA opsVC opVC withA withArgs opsQ opQ CallQ withA2 withArgs2
open Go.Pm (Pm comp invp idn img)

/- Permutations: the program's and the reference's functions -/
theorem idn_marks (n : Nat) : idn n = marks 0 n := by simp [idn, marks]
theorem isPerm_pm (p : List Int) : isPerm p ↔ (1 ≤ p.length ∧ p.length ≤ 20) ∧ Pm p.length p := by
  unfold isPerm
  refine and_congr_right fun h1 => ?_
  constructor
  · intro h
    refine ⟨rfl, fun j hj => by have := (h j hj).1; omega, fun i j hi hj e => ?_⟩
    have key : ∀ i j, i < j → j < p.length → p.getD i 0 ≠ p.getD j 0 := fun i j hij hj e => by
      refine (h j hj).2 (mem_getD.2 ⟨i, by simp; omega, ?_⟩)
      rw [← e]
      simp [List.getD_eq_getElem?_getD, List.getElem?_take, hij]
    rcases Nat.lt_trichotomy i j with hl | he | hl
    · exact absurd e (key i j hl hj)
    · exact he
    · exact absurd e.symm (key j i hl hi)
  · rintro ⟨_, h2, h3⟩ j hj
    refine ⟨by have := h2 j hj; omega, fun hm => ?_⟩
    obtain ⟨i, hi, e⟩ := mem_getD.1 hm
    simp only [List.length_take] at hi
    have e' : p.getD i 0 = p.getD j 0 := by
      rw [← e]
      simp [List.getD_eq_getElem?_getD, List.getElem?_take, show i < j by omega]
    have := h3 i j (by omega) hj e'
    omega

theorem implCompose_ok (p q : List Int) (hp : p.length ≤ 1048576) (hb : ∀ j, j < p.length → 0 ≤ p.getD j 0 ∧ p.getD j 0 < q.length) (d : Nat) : AC Try.prog 129 [ints p, ints q] Hp.emp (fun _ => false) (retI d (comp p q)) := by
  show AC _ _ _ _ _ (retI d (pick q p))
  refine ac_of_awp (N := ⟨_, fun _ => false, fun _ _ => rfl⟩) Try.func129 rfl (by kernel_rfl) Try.ntmps129 (by simp) ?_
  simp only [argsFr, List.zipIdx_cons, List.zipIdx_nil, go_sem]
  repeat' (first | refine awp_seqK fun K hK => ?_ | (refine awp_regionK 30963 rfl ?_; simp only [List.map_cons, List.map_nil]; simp (maxSteps := 1000000) (dsimp := false) (implicitDefEqProofs := false) (disch := omega) only [wrap64, go_sem]) | (refine awp_regionQK 30963 (by kernel_rfl) (by kernel_rfl) (by kernel_rfl) ?_; simp only [List.map_cons, List.map_nil]; simp (maxSteps := 1000000) (dsimp := false) (implicitDefEqProofs := false) (disch := omega) only [wrap64, go_sem]) | refine awp_block ?_ | (refine awp_skip ?_; simp only [go_sem]) | (refine awp_exit ?_; simp only [go_sem]) | (refine awp_ret ?_; try simp only [go_sem]) | (refine awp_condP rfl ?_; try simp only [go_sem]) | (refine BrP.mk (fun h => ?_) (fun h => ?_) <;> try simp (dsimp := false) (disch := omega) only [wrap64]) | (refine Br.mk (fun h => ?_) (fun h => ?_) <;> try simp (dsimp := false) (disch := omega) only [wrap64]) | refine Ob.mk (by first | omega | (intro _ _; rfl) | trivial | (intros; trivial) | assumption | (intro i hi; have h0 : i = 0 := (by omega); subst h0; first | rfl | trivial) | (intro i hi; have h0 : i = 0 ∨ i = 1 := (by omega); rcases h0 with rfl | rfl <;> rfl) | (intro i hi; have h0 : i = 0 ∨ i = 1 ∨ i = 2 := (by omega); rcases h0 with rfl | rfl | rfl <;> rfl)) ?_ | apply_assumption -exfalso -symm)
  all_goals (first | (show endQ _ _ _ _ _ _ _; (repeat (rename (∀ (A : Fr) (H : Hp), AWP _ _ _ _ A H → _) => hK; clear hK)); (repeat (rename (Fr → Hp → Prop) => K; clear K))) | (show Exists _; (repeat (rename (∀ (A : Fr) (H : Hp), AWP _ _ _ _ A H → _) => hK; clear hK)); (repeat (rename (Fr → Hp → Prop) => K; clear K))) | skip)
  refine awp_loop (ι := Nat) (fun k => [(13, .v (.int .i64 (k))), (12, .v (.int .i64 (p.length))), (11, .list false 1 (p).length (cM iv 0 (p))), (5, .own 10 0 1 p.length), (1, .list false 1 (q).length (cM iv 0 (q)))]) (fun k => Hp.emp.upd 10 (.cells p.length (cM iv 0 (pick q (p.take k) ++ List.replicate (p.length - k) 0)))) (fun k => k ≤ p.length) (fun k => p.length - k) 0 ?_ (Sub.toL (by simp only [go_sem] <;> first | trivial | (simp only [Option.some.injEq, AV.v.injEq, AV.own.injEq, AV.list.injEq, Value.int.injEq, Value.bool.injEq, true_and, and_true]; first | omega | (simp [pick]; done)) | (simp [pick]; done) | (simp [pick]; omega)) (by (repeat' (first | exact Hp.le_emp _ | exact Hp.le_refl _ | refine Hp.le_upd ?_ ?_)); all_goals (first | rfl | (simp only [go_sem]; first | rfl | (refine cellsE ?_ ?_ <;> (simp [pick])) | (simp [pick]))))) ?_
  · exact Nat.zero_le _
  intro k hk
  have hc := hb k
  have h1 : (pick q (p.take k) ++ List.replicate (p.length - k) 0).length = p.length := by simp [pick]; omega
  repeat' (first | refine awp_seqK fun K hK => ?_ | (refine awp_regionK 30963 rfl ?_; simp only [List.map_cons, List.map_nil]; simp (maxSteps := 1000000) (dsimp := false) (implicitDefEqProofs := false) (disch := omega) only [wrap64, go_sem]) | (refine awp_regionQK 30963 (by kernel_rfl) (by kernel_rfl) (by kernel_rfl) ?_; simp only [List.map_cons, List.map_nil]; simp (maxSteps := 1000000) (dsimp := false) (implicitDefEqProofs := false) (disch := omega) only [wrap64, go_sem]) | refine awp_block ?_ | (refine awp_skip ?_; simp only [go_sem]) | (refine awp_exit ?_; simp only [go_sem]) | (refine awp_ret ?_; try simp only [go_sem]) | (refine awp_condP rfl ?_; try simp only [go_sem]) | (refine BrP.mk (fun h => ?_) (fun h => ?_) <;> try simp (dsimp := false) (disch := omega) only [wrap64]) | (refine Br.mk (fun h => ?_) (fun h => ?_) <;> try simp (dsimp := false) (disch := omega) only [wrap64]) | refine Ob.mk (by first | omega | (intro _ _; rfl) | trivial | (intros; trivial) | assumption | (intro i hi; have h0 : i = 0 := (by omega); subst h0; first | rfl | trivial) | (intro i hi; have h0 : i = 0 ∨ i = 1 := (by omega); rcases h0 with rfl | rfl <;> rfl) | (intro i hi; have h0 : i = 0 ∨ i = 1 ∨ i = 2 := (by omega); rcases h0 with rfl | rfl | rfl <;> rfl)) ?_ | apply_assumption -exfalso -symm)
  all_goals (first | (show endQ _ _ _ _ _ _ _; (repeat (rename (∀ (A : Fr) (H : Hp), AWP _ _ _ _ A H → _) => hK; clear hK)); (repeat (rename (Fr → Hp → Prop) => K; clear K))) | (show Exists _; (repeat (rename (∀ (A : Fr) (H : Hp), AWP _ _ _ _ A H → _) => hK; clear hK)); (repeat (rename (Fr → Hp → Prop) => K; clear K))) | skip)
  · refine ⟨k + 1, ?_, ?_, Sub.toL (by simp only [go_sem] <;> first | trivial | (simp only [Option.some.injEq, AV.v.injEq, AV.own.injEq, AV.list.injEq, Value.int.injEq, Value.bool.injEq, true_and, and_true]; first | omega | (simp; done)) | (simp; done) | (simp; omega)) (by (repeat' (first | exact Hp.le_emp _ | exact Hp.le_refl _ | refine Hp.le_upd ?_ ?_)); all_goals (first | rfl | (simp only [go_sem]; first | rfl | (refine cellsE ?_ ?_ <;> (rw [pick_set q p k (by omega)])) | (rw [pick_set q p k (by omega)]))))⟩
    all_goals omega
  · have e : k = p.length := by omega
    subst e
    exact end_retI rfl rfl (by simp [Hp.upd]) (pick_length q p).symm rfl

/-- The inverse, k of its entries laid. -/
def invK (p : List Int) (k : Nat) : List Int := (List.range p.length).map fun i : Nat => if (p.findIdx fun x => decide (x = (i : Int))) < k then ((p.findIdx fun x => decide (x = (i : Int)) : Nat) : Int) else 0
theorem invK_length (p : List Int) (k : Nat) : (invK p k).length = p.length := by simp [invK]
theorem invK_zero (p : List Int) : invK p 0 = List.replicate p.length 0 := by
  refine List.ext_getElem (by simp [invK]) fun i h1 h2 => ?_
  simp [invK]
theorem findIdx_img {n : Nat} {p : List Int} (h : Pm n p) {k : Nat} (hk : k < n) : (p.findIdx fun x => decide (x = ((img p k : Nat) : Int))) = k := by
  obtain ⟨h1, h2⟩ := h.find (h.img_lt hk)
  exact h.inj h1 hk h2
theorem invK_step {n : Nat} {p : List Int} (h : Pm n p) {k : Nat} (hk : k < n) : (invK p k).set (p.getD k 0).toNat k = invK p (k + 1) := by
  have e0 : (p.getD k 0).toNat = img p k := rfl
  rw [e0]
  refine List.ext_getElem (by simp [invK]) fun i h1 h2 => ?_
  have hi : i < n := by simpa [invK, h.1] using h1
  rw [List.getElem_set]
  by_cases e : img p k = i
  · subst e
    rw [if_pos rfl]
    simp [invK, findIdx_img h hk]
  · rw [if_neg e]
    simp only [invK, List.getElem_map, List.getElem_range]
    have hne : (p.findIdx fun x => decide (x = (i : Int))) ≠ k := fun e2 => e (by rw [← e2]; exact (h.find hi).2)
    by_cases h3 : (p.findIdx fun x => decide (x = (i : Int))) < k
    · rw [if_pos h3, if_pos (by omega)]
    · rw [if_neg h3, if_neg (by omega)]
theorem invK_all {n : Nat} {p : List Int} (h : Pm n p) : invK p p.length = invp p := by
  unfold invK invp
  refine List.map_congr_left fun i hi => ?_
  rw [if_pos]
  rw [h.1] at hi ⊢
  exact (h.find (by simpa using hi)).1

theorem implInverse_ok (p : List Int) (hp : p.length ≤ 1048576) (hpm : Pm p.length p) (d : Nat) : AC Try.prog 143 [ints p] Hp.emp (fun _ => false) (retI d (invp p)) := by
  refine ac_of_awp (N := ⟨_, fun _ => false, fun _ _ => rfl⟩) Try.func143 rfl (by kernel_rfl) Try.ntmps143 (by simp) ?_
  simp only [argsFr, List.zipIdx_cons, List.zipIdx_nil, go_sem]
  repeat' (first | refine awp_seqK fun K hK => ?_ | (refine awp_regionK 7741 rfl ?_; simp only [List.map_cons, List.map_nil]; simp (maxSteps := 1000000) (dsimp := false) (implicitDefEqProofs := false) (disch := omega) only [wrap64, go_sem]) | (refine awp_regionQK 7741 (by kernel_rfl) (by kernel_rfl) (by kernel_rfl) ?_; simp only [List.map_cons, List.map_nil]; simp (maxSteps := 1000000) (dsimp := false) (implicitDefEqProofs := false) (disch := omega) only [wrap64, go_sem]) | refine awp_block ?_ | (refine awp_skip ?_; simp only [go_sem]) | (refine awp_exit ?_; simp only [go_sem]) | (refine awp_ret ?_; try simp only [go_sem]) | (refine awp_condP rfl ?_; try simp only [go_sem]) | (refine BrP.mk (fun h => ?_) (fun h => ?_) <;> try simp (dsimp := false) (disch := omega) only [wrap64]) | (refine Br.mk (fun h => ?_) (fun h => ?_) <;> try simp (dsimp := false) (disch := omega) only [wrap64]) | refine Ob.mk (by first | omega | (intro _ _; rfl) | trivial | (intros; trivial) | assumption | (intro i hi; have h0 : i = 0 := (by omega); subst h0; first | rfl | trivial) | (intro i hi; have h0 : i = 0 ∨ i = 1 := (by omega); rcases h0 with rfl | rfl <;> rfl) | (intro i hi; have h0 : i = 0 ∨ i = 1 ∨ i = 2 := (by omega); rcases h0 with rfl | rfl | rfl <;> rfl)) ?_ | apply_assumption -exfalso -symm)
  all_goals (first | (show endQ _ _ _ _ _ _ _; (repeat (rename (∀ (A : Fr) (H : Hp), AWP _ _ _ _ A H → _) => hK; clear hK)); (repeat (rename (Fr → Hp → Prop) => K; clear K))) | (show Exists _; (repeat (rename (∀ (A : Fr) (H : Hp), AWP _ _ _ _ A H → _) => hK; clear hK)); (repeat (rename (Fr → Hp → Prop) => K; clear K))) | skip)
  refine awp_loop (ι := Nat) (fun k => [(11, .v (.int .i64 (k))), (10, .v (.int .i64 (p.length))), (9, .list false 1 (p).length (cM iv 0 (p))), (3, .own 8 0 1 p.length)]) (fun k => Hp.emp.upd 8 (.cells p.length (cM iv 0 (invK p k)))) (fun k => k ≤ p.length) (fun k => p.length - k) 0 ?_ (Sub.toL (by simp only [go_sem] <;> first | trivial | (simp only [Option.some.injEq, AV.v.injEq, AV.own.injEq, AV.list.injEq, Value.int.injEq, Value.bool.injEq, true_and, and_true]; first | omega | (simp [invK_zero]; done)) | (simp [invK_zero]; done) | (simp [invK_zero]; omega)) (by (repeat' (first | exact Hp.le_emp _ | exact Hp.le_refl _ | refine Hp.le_upd ?_ ?_)); all_goals (first | rfl | (simp only [go_sem]; first | rfl | (refine cellsE ?_ ?_ <;> (simp [invK_zero])) | (simp [invK_zero]))))) ?_
  · exact Nat.zero_le _
  intro k hk
  have hc := hpm.2.1 k
  have h1 := invK_length p k
  repeat' (first | refine awp_seqK fun K hK => ?_ | (refine awp_regionK 7741 rfl ?_; simp only [List.map_cons, List.map_nil]; simp (maxSteps := 1000000) (dsimp := false) (implicitDefEqProofs := false) (disch := omega) only [wrap64, go_sem]) | (refine awp_regionQK 7741 (by kernel_rfl) (by kernel_rfl) (by kernel_rfl) ?_; simp only [List.map_cons, List.map_nil]; simp (maxSteps := 1000000) (dsimp := false) (implicitDefEqProofs := false) (disch := omega) only [wrap64, go_sem]) | refine awp_block ?_ | (refine awp_skip ?_; simp only [go_sem]) | (refine awp_exit ?_; simp only [go_sem]) | (refine awp_ret ?_; try simp only [go_sem]) | (refine awp_condP rfl ?_; try simp only [go_sem]) | (refine BrP.mk (fun h => ?_) (fun h => ?_) <;> try simp (dsimp := false) (disch := omega) only [wrap64]) | (refine Br.mk (fun h => ?_) (fun h => ?_) <;> try simp (dsimp := false) (disch := omega) only [wrap64]) | refine Ob.mk (by first | omega | (intro _ _; rfl) | trivial | (intros; trivial) | assumption | (intro i hi; have h0 : i = 0 := (by omega); subst h0; first | rfl | trivial) | (intro i hi; have h0 : i = 0 ∨ i = 1 := (by omega); rcases h0 with rfl | rfl <;> rfl) | (intro i hi; have h0 : i = 0 ∨ i = 1 ∨ i = 2 := (by omega); rcases h0 with rfl | rfl | rfl <;> rfl)) ?_ | apply_assumption -exfalso -symm)
  all_goals (first | (show endQ _ _ _ _ _ _ _; (repeat (rename (∀ (A : Fr) (H : Hp), AWP _ _ _ _ A H → _) => hK; clear hK)); (repeat (rename (Fr → Hp → Prop) => K; clear K))) | (show Exists _; (repeat (rename (∀ (A : Fr) (H : Hp), AWP _ _ _ _ A H → _) => hK; clear hK)); (repeat (rename (Fr → Hp → Prop) => K; clear K))) | skip)
  · refine ⟨k + 1, ?_, ?_, Sub.toL (by simp only [go_sem] <;> first | trivial | (simp only [Option.some.injEq, AV.v.injEq, AV.own.injEq, AV.list.injEq, Value.int.injEq, Value.bool.injEq, true_and, and_true]; first | omega | (simp; done)) | (simp; done) | (simp; omega)) (by (repeat' (first | exact Hp.le_emp _ | exact Hp.le_refl _ | refine Hp.le_upd ?_ ?_)); all_goals (first | rfl | (simp only [go_sem]; first | rfl | (refine cellsE ?_ ?_ <;> (rw [invK_step hpm (by omega)])) | (rw [invK_step hpm (by omega)]))))⟩
    all_goals omega
  · have e : k = p.length := by omega
    subst e
    rw [invK_all hpm]
    exact end_retI rfl rfl (by simp [Hp.upd]) (by rw [← invK_all hpm, invK_length]) rfl

theorem specInverse_ok (p : List Int) (hp : p.length ≤ 1048576) (hpm : Pm p.length p) (d : Nat) : AC Try.prog 174 [ints p] Hp.emp (fun _ => false) (retI d (invp p)) := by
  refine ac_of_awp (N := ⟨_, fun _ => false, fun _ _ => rfl⟩) Try.func174 rfl (by kernel_rfl) Try.ntmps174 (by simp) ?_
  simp only [argsFr, List.zipIdx_cons, List.zipIdx_nil, go_sem]
  repeat' (first | refine awp_seqK fun K hK => ?_ | (refine awp_regionK 2077 rfl ?_; simp only [List.map_cons, List.map_nil]; simp (maxSteps := 1000000) (dsimp := false) (implicitDefEqProofs := false) (disch := omega) only [wrap64, go_sem]) | (refine awp_regionQK 2077 (by kernel_rfl) (by kernel_rfl) (by kernel_rfl) ?_; simp only [List.map_cons, List.map_nil]; simp (maxSteps := 1000000) (dsimp := false) (implicitDefEqProofs := false) (disch := omega) only [wrap64, go_sem]) | refine awp_block ?_ | (refine awp_skip ?_; simp only [go_sem]) | (refine awp_exit ?_; simp only [go_sem]) | (refine awp_ret ?_; try simp only [go_sem]) | (refine awp_condP rfl ?_; try simp only [go_sem]) | (refine BrP.mk (fun h => ?_) (fun h => ?_) <;> try simp (dsimp := false) (disch := omega) only [wrap64]) | (refine Br.mk (fun h => ?_) (fun h => ?_) <;> try simp (dsimp := false) (disch := omega) only [wrap64]) | refine Ob.mk (by first | omega | (intro _ _; rfl) | trivial | (intros; trivial) | assumption | (intro i hi; have h0 : i = 0 := (by omega); subst h0; first | rfl | trivial) | (intro i hi; have h0 : i = 0 ∨ i = 1 := (by omega); rcases h0 with rfl | rfl <;> rfl) | (intro i hi; have h0 : i = 0 ∨ i = 1 ∨ i = 2 := (by omega); rcases h0 with rfl | rfl | rfl <;> rfl)) ?_ | apply_assumption -exfalso -symm)
  all_goals (first | (show endQ _ _ _ _ _ _ _; (repeat (rename (∀ (A : Fr) (H : Hp), AWP _ _ _ _ A H → _) => hK; clear hK)); (repeat (rename (Fr → Hp → Prop) => K; clear K))) | (show Exists _; (repeat (rename (∀ (A : Fr) (H : Hp), AWP _ _ _ _ A H → _) => hK; clear hK)); (repeat (rename (Fr → Hp → Prop) => K; clear K))) | skip)
  refine awp_loop (ι := Nat) (fun k => [(4, .v (.int .i64 (k))), (0, .list false 1 (p).length (cM iv 0 (p))), (3, .own 7 0 1 p.length)]) (fun k => Hp.emp.upd 7 (.cells p.length (cM iv 0 (invK p k)))) (fun k => k ≤ p.length) (fun k => p.length - k) 0 ?_ (Sub.toL (by simp only [go_sem] <;> first | trivial | (simp only [Option.some.injEq, AV.v.injEq, AV.own.injEq, AV.list.injEq, Value.int.injEq, Value.bool.injEq, true_and, and_true]; first | omega | (simp [invK_zero]; done)) | (simp [invK_zero]; done) | (simp [invK_zero]; omega)) (by (repeat' (first | exact Hp.le_emp _ | exact Hp.le_refl _ | refine Hp.le_upd ?_ ?_)); all_goals (first | rfl | (simp only [go_sem]; first | rfl | (refine cellsE ?_ ?_ <;> (simp [invK_zero])) | (simp [invK_zero]))))) ?_
  · exact Nat.zero_le _
  intro k hk
  have hc := hpm.2.1 k
  have h1 := invK_length p k
  repeat' (first | refine awp_seqK fun K hK => ?_ | (refine awp_regionK 2077 rfl ?_; simp only [List.map_cons, List.map_nil]; simp (maxSteps := 1000000) (dsimp := false) (implicitDefEqProofs := false) (disch := omega) only [wrap64, go_sem]) | (refine awp_regionQK 2077 (by kernel_rfl) (by kernel_rfl) (by kernel_rfl) ?_; simp only [List.map_cons, List.map_nil]; simp (maxSteps := 1000000) (dsimp := false) (implicitDefEqProofs := false) (disch := omega) only [wrap64, go_sem]) | refine awp_block ?_ | (refine awp_skip ?_; simp only [go_sem]) | (refine awp_exit ?_; simp only [go_sem]) | (refine awp_ret ?_; try simp only [go_sem]) | (refine awp_condP rfl ?_; try simp only [go_sem]) | (refine BrP.mk (fun h => ?_) (fun h => ?_) <;> try simp (dsimp := false) (disch := omega) only [wrap64]) | (refine Br.mk (fun h => ?_) (fun h => ?_) <;> try simp (dsimp := false) (disch := omega) only [wrap64]) | refine Ob.mk (by first | omega | (intro _ _; rfl) | trivial | (intros; trivial) | assumption | (intro i hi; have h0 : i = 0 := (by omega); subst h0; first | rfl | trivial) | (intro i hi; have h0 : i = 0 ∨ i = 1 := (by omega); rcases h0 with rfl | rfl <;> rfl) | (intro i hi; have h0 : i = 0 ∨ i = 1 ∨ i = 2 := (by omega); rcases h0 with rfl | rfl | rfl <;> rfl)) ?_ | apply_assumption -exfalso -symm)
  all_goals (first | (show endQ _ _ _ _ _ _ _; (repeat (rename (∀ (A : Fr) (H : Hp), AWP _ _ _ _ A H → _) => hK; clear hK)); (repeat (rename (Fr → Hp → Prop) => K; clear K))) | (show Exists _; (repeat (rename (∀ (A : Fr) (H : Hp), AWP _ _ _ _ A H → _) => hK; clear hK)); (repeat (rename (Fr → Hp → Prop) => K; clear K))) | skip)
  · refine ⟨k + 1, ?_, ?_, Sub.toL (by simp only [go_sem] <;> first | trivial | (simp only [Option.some.injEq, AV.v.injEq, AV.own.injEq, AV.list.injEq, Value.int.injEq, Value.bool.injEq, true_and, and_true]; first | omega | (simp; done)) | (simp; done) | (simp; omega)) (by (repeat' (first | exact Hp.le_emp _ | exact Hp.le_refl _ | refine Hp.le_upd ?_ ?_)); all_goals (first | rfl | (simp only [go_sem]; first | rfl | (refine cellsE ?_ ?_ <;> (rw [invK_step hpm (by omega)])) | (rw [invK_step hpm (by omega)]))))⟩
    all_goals omega
  · have e : k = p.length := by omega
    subst e
    rw [invK_all hpm]
    exact end_retI rfl rfl (by simp [Hp.upd]) (by rw [← invK_all hpm, invK_length]) rfl

theorem implIdentity_ok (n : Nat) (hn : n ≤ 1048576) (d : Nat) : AC Try.prog 128 [.v (.int .i64 (n))] Hp.emp (fun _ => false) (retI d (idn n)) := by
  refine ac_of_awp (N := ⟨_, fun _ => false, fun _ _ => rfl⟩) Try.func128 rfl (by kernel_rfl) Try.ntmps128 (by simp) ?_
  simp only [argsFr, List.zipIdx_cons, List.zipIdx_nil, go_sem]
  repeat' (first | refine awp_seqK fun K hK => ?_ | (refine awp_regionK 1821 rfl ?_; simp only [List.map_cons, List.map_nil]; simp (maxSteps := 1000000) (dsimp := false) (implicitDefEqProofs := false) (disch := omega) only [wrap64, go_sem]) | (refine awp_regionQK 1821 (by kernel_rfl) (by kernel_rfl) (by kernel_rfl) ?_; simp only [List.map_cons, List.map_nil]; simp (maxSteps := 1000000) (dsimp := false) (implicitDefEqProofs := false) (disch := omega) only [wrap64, go_sem]) | refine awp_block ?_ | (refine awp_skip ?_; simp only [go_sem]) | (refine awp_exit ?_; simp only [go_sem]) | (refine awp_ret ?_; try simp only [go_sem]) | (refine awp_condP rfl ?_; try simp only [go_sem]) | (refine BrP.mk (fun h => ?_) (fun h => ?_) <;> try simp (dsimp := false) (disch := omega) only [wrap64]) | (refine Br.mk (fun h => ?_) (fun h => ?_) <;> try simp (dsimp := false) (disch := omega) only [wrap64]) | refine Ob.mk (by first | omega | (intro _ _; rfl) | trivial | (intros; trivial) | assumption | (intro i hi; have h0 : i = 0 := (by omega); subst h0; first | rfl | trivial) | (intro i hi; have h0 : i = 0 ∨ i = 1 := (by omega); rcases h0 with rfl | rfl <;> rfl) | (intro i hi; have h0 : i = 0 ∨ i = 1 ∨ i = 2 := (by omega); rcases h0 with rfl | rfl | rfl <;> rfl)) ?_ | apply_assumption -exfalso -symm)
  all_goals (first | (show endQ _ _ _ _ _ _ _; (repeat (rename (∀ (A : Fr) (H : Hp), AWP _ _ _ _ A H → _) => hK; clear hK)); (repeat (rename (Fr → Hp → Prop) => K; clear K))) | (show Exists _; (repeat (rename (∀ (A : Fr) (H : Hp), AWP _ _ _ _ A H → _) => hK; clear hK)); (repeat (rename (Fr → Hp → Prop) => K; clear K))) | skip)
  refine awp_loop (ι := Nat) (fun k => [(9, .v (.int .i64 (k))), (8, .v (.int .i64 (n))), (3, .own 6 0 1 n)]) (fun k => Hp.emp.upd 6 (.cells n (cM iv 0 (idn k ++ List.replicate (n - k) 0)))) (fun k => k ≤ n) (fun k => n - k) 0 ?_ (Sub.toL (by simp only [go_sem] <;> first | trivial | (simp only [Option.some.injEq, AV.v.injEq, AV.own.injEq, AV.list.injEq, Value.int.injEq, Value.bool.injEq, true_and, and_true]; first | omega | (simp [idn]; done)) | (simp [idn]; done) | (simp [idn]; omega)) (by (repeat' (first | exact Hp.le_emp _ | exact Hp.le_refl _ | refine Hp.le_upd ?_ ?_)); all_goals (first | rfl | (simp only [go_sem]; first | rfl | (refine cellsE ?_ ?_ <;> (simp [idn])) | (simp [idn]))))) ?_
  · exact Nat.zero_le _
  intro k hk
  have h1 : (idn k ++ List.replicate (n - k) 0).length = n := by simp [idn]; omega
  have h2 : k < n → (idn k ++ List.replicate (n - k) 0).set k k = idn (k + 1) ++ List.replicate (n - (k + 1)) 0 := fun h => by
    rw [List.set_append_right _ _ (by simp [idn])]
    simp only [Go.Pm.idn_length, Nat.sub_self]
    rw [show n - k = (n - (k + 1)) + 1 by omega, List.replicate_succ, List.set_cons_zero]
    simp [idn, List.range_succ]
  repeat' (first | refine awp_seqK fun K hK => ?_ | (refine awp_regionK 1821 rfl ?_; simp only [List.map_cons, List.map_nil]; simp (maxSteps := 1000000) (dsimp := false) (implicitDefEqProofs := false) (disch := omega) only [wrap64, go_sem]) | (refine awp_regionQK 1821 (by kernel_rfl) (by kernel_rfl) (by kernel_rfl) ?_; simp only [List.map_cons, List.map_nil]; simp (maxSteps := 1000000) (dsimp := false) (implicitDefEqProofs := false) (disch := omega) only [wrap64, go_sem]) | refine awp_block ?_ | (refine awp_skip ?_; simp only [go_sem]) | (refine awp_exit ?_; simp only [go_sem]) | (refine awp_ret ?_; try simp only [go_sem]) | (refine awp_condP rfl ?_; try simp only [go_sem]) | (refine BrP.mk (fun h => ?_) (fun h => ?_) <;> try simp (dsimp := false) (disch := omega) only [wrap64]) | (refine Br.mk (fun h => ?_) (fun h => ?_) <;> try simp (dsimp := false) (disch := omega) only [wrap64]) | refine Ob.mk (by first | omega | (intro _ _; rfl) | trivial | (intros; trivial) | assumption | (intro i hi; have h0 : i = 0 := (by omega); subst h0; first | rfl | trivial) | (intro i hi; have h0 : i = 0 ∨ i = 1 := (by omega); rcases h0 with rfl | rfl <;> rfl) | (intro i hi; have h0 : i = 0 ∨ i = 1 ∨ i = 2 := (by omega); rcases h0 with rfl | rfl | rfl <;> rfl)) ?_ | apply_assumption -exfalso -symm)
  all_goals (first | (show endQ _ _ _ _ _ _ _; (repeat (rename (∀ (A : Fr) (H : Hp), AWP _ _ _ _ A H → _) => hK; clear hK)); (repeat (rename (Fr → Hp → Prop) => K; clear K))) | (show Exists _; (repeat (rename (∀ (A : Fr) (H : Hp), AWP _ _ _ _ A H → _) => hK; clear hK)); (repeat (rename (Fr → Hp → Prop) => K; clear K))) | skip)
  · refine ⟨k + 1, ?_, ?_, Sub.toL (by simp only [go_sem] <;> first | trivial | (simp only [Option.some.injEq, AV.v.injEq, AV.own.injEq, AV.list.injEq, Value.int.injEq, Value.bool.injEq, true_and, and_true]; first | omega | (simp; done)) | (simp; done) | (simp; omega)) (by (repeat' (first | exact Hp.le_emp _ | exact Hp.le_refl _ | refine Hp.le_upd ?_ ?_)); all_goals (first | rfl | (simp only [go_sem]; first | rfl | (refine cellsE ?_ ?_ <;> (first | omega | (rw [h2 (by omega)]))) | (first | omega | (rw [h2 (by omega)])))))⟩
    all_goals omega
  · have e : k = n := by omega
    subst e
    exact end_retI rfl rfl (by simp [Hp.upd]) (by simp [idn]) rfl

/- letters and words -/
def letP (g : List (List Int)) (l : Int) : List Int := if 0 < l then g.getD (l - 1).toNat [] else invp (g.getD (-l - 1).toNat [])
/-- The generators are permutations of n points. -/
def gensP (n : Nat) (g : List (List Int)) : Prop := g.length ≤ 1048576 ∧ n ≤ 20 ∧ ∀ j, j < g.length → Pm n (g.getD j [])
theorem gensP.of {n : Int} {g : List (List Int)} (h : isGens n g) : gensP n.toNat g := by
  refine ⟨by have := h.2.1; omega, by have := h.1; omega, fun j hj => ?_⟩
  obtain ⟨h1, h2⟩ := h.2.2 j hj
  have := ((isPerm_pm _).1 h2).2
  rwa [show (g.getD j []).length = n.toNat by omega] at this
def inL (g : List (List Int)) (l : Int) : Prop := l ≠ 0 ∧ -(g.length : Int) ≤ l ∧ l ≤ g.length
theorem letP_pm {n : Nat} {g : List (List Int)} {l : Int} (hg : gensP n g) (hl : inL g l) : Pm n (letP g l) := by
  unfold letP inL at *
  split
  · exact hg.2.2 _ (by omega)
  · exact (hg.2.2 _ (by omega)).inv
theorem implLetterOf_ok (n : Nat) (g : List (List Int)) (l : Int) (hg : gensP n g) (hl : inL g l) : AC Try.prog 130 [intss g, .v (.int .i64 (l))] Hp.emp (fun _ => false) (retV (ints (letP g l))) := by
  unfold inL at hl
  have h3 := hg.1
  refine ac_of_awp (N := ⟨_, fun _ => false, fun _ _ => rfl⟩) Try.func130 rfl (by kernel_rfl) Try.ntmps130 (by simp) ?_
  simp only [argsFr, List.zipIdx_cons, List.zipIdx_nil, go_sem]
  repeat' (first | refine awp_seqK fun K hK => ?_ | (refine awp_regionK 83 rfl ?_; simp only [List.map_cons, List.map_nil]; simp (maxSteps := 1000000) (dsimp := false) (implicitDefEqProofs := false) (disch := omega) only [wrap64, go_sem, Int.zero_sub]) | (refine awp_regionQK 83 (by kernel_rfl) (by kernel_rfl) (by kernel_rfl) ?_; simp only [List.map_cons, List.map_nil]; simp (maxSteps := 1000000) (dsimp := false) (implicitDefEqProofs := false) (disch := omega) only [wrap64, go_sem, Int.zero_sub]) | refine awp_block ?_ | (refine awp_skip ?_; simp only [go_sem, Int.zero_sub]) | (refine awp_exit ?_; simp only [go_sem, Int.zero_sub]) | (refine awp_ret ?_; try simp only [go_sem, Int.zero_sub]) | (refine awp_condP rfl ?_; try simp only [go_sem, Int.zero_sub]) | (refine BrP.mk (fun h => ?_) (fun h => ?_) <;> try simp (dsimp := false) (disch := omega) only [wrap64]) | (refine Br.mk (fun h => ?_) (fun h => ?_) <;> try simp (dsimp := false) (disch := omega) only [wrap64]) | refine Ob.mk (by first | omega | (intro _ _; rfl) | trivial | (intros; trivial) | assumption | (intro i hi; have h0 : i = 0 := (by omega); subst h0; first | rfl | trivial) | (intro i hi; have h0 : i = 0 ∨ i = 1 := (by omega); rcases h0 with rfl | rfl <;> rfl) | (intro i hi; have h0 : i = 0 ∨ i = 1 ∨ i = 2 := (by omega); rcases h0 with rfl | rfl | rfl <;> rfl)) ?_ | ((first | ((first | refine atF (f := 143) ?_ | refine atQ (f := 143) ?_); (first | (refine cI (hac := implInverse_ok (g.getD (-l - 1).toNat []) (by rw [(hg.2.2 _ (by omega)).1]; have := hg.2.1; omega) (by have := hg.2.2 (-l - 1).toNat (by omega); rwa [← this.1] at this) 18) (hK := ?_)) | (refine cQI (hac := implInverse_ok (g.getD (-l - 1).toNat []) (by rw [(hg.2.2 _ (by omega)).1]; have := hg.2.1; omega) (by have := hg.2.2 (-l - 1).toNat (by omega); rwa [← this.1] at this) 18) (hK := ?_))))); simp (maxSteps := 1000000) (dsimp := false) (implicitDefEqProofs := false) (disch := omega) only [wrap64, go_sem, Int.zero_sub]) | apply_assumption -exfalso -symm)
  all_goals (first | (show endQ _ _ _ _ _ _ _; (repeat (rename (∀ (A : Fr) (H : Hp), AWP _ _ _ _ A H → _) => hK; clear hK)); (repeat (rename (Fr → Hp → Prop) => K; clear K))) | (show Exists _; (repeat (rename (∀ (A : Fr) (H : Hp), AWP _ _ _ _ A H → _) => hK; clear hK)); (repeat (rename (Fr → Hp → Prop) => K; clear K))) | skip)
  · refine end_retF rfl rfl ?_
    unfold letP
    rw [if_pos (by assumption)]
    exact .refl _
  · refine end_retF rfl rfl ?_
    unfold letP
    rw [if_neg (by assumption)]
    exact fits_I rfl trivial rfl rfl
def wordP (g : List (List Int)) (w : List Int) : Prop := ∀ j, j < w.length → inL g (w.getD j 0)
theorem wordP.of {g : List (List Int)} {w : List Int} (h : isW g.length w) : wordP g w := fun j hj => by
  have := h.2 j hj
  unfold isL at this; unfold inL; omega
theorem pm_lt {n : Nat} {p q : List Int} (hp : Pm n p) (hq : Pm n q) : ∀ j, j < p.length → 0 ≤ p.getD j 0 ∧ p.getD j 0 < q.length := fun j hj => by
  rw [hp.1] at hj
  have := hp.2.1 j hj
  rw [hq.1]; omega
end Go.Proofs.Ytdllbnchcjgcdaa
end
section
namespace Go.Proofs.Ytdllbnchcjgcdaa
open Go.Av
set_option linter.unusedSimpArgs false
set_option linter.unusedVariables false
attribute [local irreducible] AWP CallG Ob Br BrP Go.Av.Sub endQ AOps OpV AC thenA blkA opsVC opVC withA withArgs opsQ opQ CallQ withA2 withArgs2
open Go.Pm (Pm comp invp idn img)

/- ApplyWord -/
theorem isPz.gens {p : Pz} (h : isPz p) : gensP p.n.toNat p.m := .of h.1
theorem isPz.cast {p : Pz} (h : isPz p) : ((p.n.toNat : Nat) : Int) = p.n := by have := h.n; omega
theorem isSt.pm {p : Pz} {s : List Int} (h : isSt p s) : Pm p.n.toNat s := by
  have h1 := ((isPerm_pm s).1 h.2.2).2
  rwa [show s.length = p.n.toNat by have := h.2.1; omega] at h1
theorem specCopyInts_ok (xs : List Int) (hx : xs.length ≤ 1048576) (d : Nat) : AC Try.prog 95 [ints xs] Hp.emp (fun _ => false) (retI d xs) := by
  have e : apF 0 (cM iv 0 (List.replicate 0 (0 : Int))) (cM iv 0 xs) = cM iv 0 xs := by funext j; simp [apF]
  refine ac_of_awp (N := ⟨_, fun _ => false, fun _ _ => rfl⟩) Try.func95 rfl (by kernel_rfl) Try.ntmps95 (by simp) ?_
  simp only [argsFr, List.zipIdx_cons, List.zipIdx_nil, go_sem]
  repeat' (first | refine awp_seqK fun K hK => ?_ | (refine awp_regionK 5 rfl ?_; simp only [List.map_cons, List.map_nil]; simp (maxSteps := 1000000) (dsimp := false) (implicitDefEqProofs := false) (disch := omega) only [wrap64, go_sem]) | (refine awp_regionQK 5 (by kernel_rfl) (by kernel_rfl) (by kernel_rfl) ?_; simp only [List.map_cons, List.map_nil]; simp (maxSteps := 1000000) (dsimp := false) (implicitDefEqProofs := false) (disch := omega) only [wrap64, go_sem]) | refine awp_block ?_ | (refine awp_skip ?_; simp only [go_sem]) | (refine awp_exit ?_; simp only [go_sem]) | (refine awp_ret ?_; try simp only [go_sem]) | (refine awp_condP rfl ?_; try simp only [go_sem]) | (refine BrP.mk (fun h => ?_) (fun h => ?_) <;> try simp (dsimp := false) (disch := omega) only [wrap64]) | (refine Br.mk (fun h => ?_) (fun h => ?_) <;> try simp (dsimp := false) (disch := omega) only [wrap64]) | refine Ob.mk (by first | omega | (intro _ _; rfl) | trivial | (intros; trivial) | assumption | (intro i hi; have h0 : i = 0 := (by omega); subst h0; first | rfl | trivial) | (intro i hi; have h0 : i = 0 ∨ i = 1 := (by omega); rcases h0 with rfl | rfl <;> rfl) | (intro i hi; have h0 : i = 0 ∨ i = 1 ∨ i = 2 := (by omega); rcases h0 with rfl | rfl | rfl <;> rfl)) ?_ | apply_assumption -exfalso -symm)
  all_goals (first | (show endQ _ _ _ _ _ _ _; (repeat (rename (∀ (A : Fr) (H : Hp), AWP _ _ _ _ A H → _) => hK; clear hK)); (repeat (rename (Fr → Hp → Prop) => K; clear K))) | (show Exists _; (repeat (rename (∀ (A : Fr) (H : Hp), AWP _ _ _ _ A H → _) => hK; clear hK)); (repeat (rename (Fr → Hp → Prop) => K; clear K))) | skip)
  rw [e]
  exact end_retI' rfl rfl rfl rfl rfl rfl
end Go.Proofs.Ytdllbnchcjgcdaa
end
section
namespace Go.Proofs.Ytdllbnchcjgcdaa
open Go.Av
set_option linter.unusedSimpArgs false
set_option linter.unusedVariables false
attribute [local irreducible] AWP CallG Ob Br BrP Go.Av.Sub endQ AOps OpV AC thenA blkA opsVC opVC withA withArgs opsQ opQ CallQ withA2 withArgs2
open Go.Pm (Pm comp invp idn img)

/- Neighbors -/
theorem lets_get (m : Nat) : ∀ j, j < 2 * m → (lets m).getD j 0 ≠ 0 ∧ -(m : Int) ≤ (lets m).getD j 0 ∧ (lets m).getD j 0 ≤ m := by
  induction m with
  | zero => intro j hj; omega
  | succ m ih =>
    intro j hj
    have hl := lets_length m
    unfold lets
    rw [getD_append]
    split
    · have := ih j (by omega); omega
    · have h2 : j - (lets m).length = 0 ∨ j - (lets m).length = 1 := by omega
      rcases h2 with h2 | h2 <;> rw [h2] <;> simp <;> omega
theorem lets_inL (g : List (List Int)) (j : Nat) (h : j < (lets g.length).length) : inL g ((lets g.length).getD j 0) := by
  rw [lets_length] at h
  exact lets_get g.length j h
def nbrs (p : Pz) (s : List Int) : List (List Int) := (lets p.m.length).map fun l => comp s (letP p.m l)
theorem nbrs_length (p : Pz) (s : List Int) : (nbrs p s).length = 2 * p.m.length := by simp [nbrs, lets_length]
theorem nbrs_get (p : Pz) (s : List Int) (k : Nat) (h : k < 2 * p.m.length) : (nbrs p s).getD k [] = comp s (letP p.m ((lets p.m.length).getD k 0)) := by
  have hl := lets_length p.m.length
  simp [nbrs, List.getD_eq_getElem?_getD, List.getElem?_eq_getElem (show k < (lets p.m.length).length by omega)]

theorem puzNeighbors_ok (p : Pz) (s : List Int) (hst : isSt p s) (d : Nat) (hd : d < 2097152) : AC Try.prog 150 [pz p, ints s] Hp.emp (fun _ => false) (retII d (nbrs p s)) := by
  have hm := hst.1.1.2.1
  have hnl := nbrs_length p s
  have hll := lets_length p.m.length
  have hsl := (isSt_len hst).1
  have hn := hst.1.n
  refine AC.famI (d0 := 25) ?_ d (by rw [FB_eq]; omega) hd (by rw [FB_eq]; omega) (fun ρ => by simp only [List.map_cons, List.map_nil, pz_ren, ints_ren])
  refine ac_of_awp (N := ⟨_, fun _ => false, fun _ _ => rfl⟩) Try.func150 rfl (by kernel_rfl) Try.ntmps150 (by simp) ?_
  simp only [argsFr, List.zipIdx_cons, List.zipIdx_nil, go_sem]
  repeat' (first | refine awp_seqK fun K hK => ?_ | (refine awp_regionK 30903 rfl ?_; simp only [List.map_cons, List.map_nil]; simp (maxSteps := 1000000) (dsimp := false) (implicitDefEqProofs := false) (disch := omega) only [wrap64, go_sem]) | (refine awp_regionQK 30903 (by kernel_rfl) (by kernel_rfl) (by kernel_rfl) ?_; simp only [List.map_cons, List.map_nil]; simp (maxSteps := 1000000) (dsimp := false) (implicitDefEqProofs := false) (disch := omega) only [wrap64, go_sem]) | refine awp_block ?_ | (refine awp_skip ?_; simp only [go_sem]) | (refine awp_exit ?_; simp only [go_sem]) | (refine awp_ret ?_; try simp only [go_sem]) | (refine awp_condP rfl ?_; try simp only [go_sem]) | (refine BrP.mk (fun h => ?_) (fun h => ?_) <;> try simp (dsimp := false) (disch := omega) only [wrap64]) | (refine Br.mk (fun h => ?_) (fun h => ?_) <;> try simp (dsimp := false) (disch := omega) only [wrap64]) | refine Ob.mk (by first | omega | (intro _ _; rfl) | trivial | (intros; trivial) | assumption | (intro i hi; have h0 : i = 0 := (by omega); subst h0; first | rfl | trivial) | (intro i hi; have h0 : i = 0 ∨ i = 1 := (by omega); rcases h0 with rfl | rfl <;> rfl) | (intro i hi; have h0 : i = 0 ∨ i = 1 ∨ i = 2 := (by omega); rcases h0 with rfl | rfl | rfl <;> rfl)) ?_ | ((first | ((first | refine atF (f := 148) ?_ | refine atQ (f := 148) ?_); (first | (refine cFI (hac := letters_ok p.m.length (by omega) 11) (hK := ?_)) | (refine cQI (hac := letters_ok p.m.length (by omega) 11) (hK := ?_))))); simp (maxSteps := 1000000) (dsimp := false) (implicitDefEqProofs := false) (disch := omega) only [wrap64, go_sem]) | apply_assumption -exfalso -symm)
  all_goals (first | (show endQ _ _ _ _ _ _ _; (repeat (rename (∀ (A : Fr) (H : Hp), AWP _ _ _ _ A H → _) => hK; clear hK)); (repeat (rename (Fr → Hp → Prop) => K; clear K))) | (show Exists _; (repeat (rename (∀ (A : Fr) (H : Hp), AWP _ _ _ _ A H → _) => hK; clear hK)); (repeat (rename (Fr → Hp → Prop) => K; clear K))) | skip)
  refine awp_loop (ι := Nat) (fun k => [(13, .v (.int .i64 (k))), (12, .v (.int .i64 ((lets p.m.length).length))), (11, .list false 1 (lets p.m.length).length (cM iv 0 (lets p.m.length))), (5, .own 25 0 1 k), (1, .list false 1 (s).length (cM iv 0 (s))), (2, .ref 2 0)]) (fun k => (PR 25 (nbrs p s) k k).add (Hp.emp.upd 2 (.cells 3 (vecF [.v (.int .i64 p.n), .v (.string p.s), .list false 1 (p.m).length (cM ints [] (p.m))])))) (fun k => k ≤ (lets p.m.length).length) (fun k => (lets p.m.length).length - k) 0 (Nat.zero_le _) (Sub.trans (Sub.nil (i := 5) 25 1 (mixF 25 (nbrs p s) 0) rfl rfl) (Sub.toL (by simp only [go_sem]; trivial) ?_)) ?_
  · simp only [go_sem]
    exact PR_nil_le (Hp.le_refl _) (by simp [Hp.upd, Hp.emp])
  intro k hk
  have hl1 := lets_inL p.m k
  have hpm := hst.pm
  have hsz := hpm.1
  repeat' (first | refine awp_seqK fun K hK => ?_ | (refine awp_regionK 30903 rfl ?_; simp only [List.map_cons, List.map_nil]; simp (maxSteps := 1000000) (dsimp := false) (implicitDefEqProofs := false) (disch := omega) only [wrap64, go_sem]) | (refine awp_regionQK 30903 (by kernel_rfl) (by kernel_rfl) (by kernel_rfl) ?_; simp only [List.map_cons, List.map_nil]; simp (maxSteps := 1000000) (dsimp := false) (implicitDefEqProofs := false) (disch := omega) only [wrap64, go_sem]) | refine awp_block ?_ | (refine awp_skip ?_; simp only [go_sem]) | (refine awp_exit ?_; simp only [go_sem]) | (refine awp_ret ?_; try simp only [go_sem]) | (refine awp_condP rfl ?_; try simp only [go_sem]) | (refine BrP.mk (fun h => ?_) (fun h => ?_) <;> try simp (dsimp := false) (disch := omega) only [wrap64]) | (refine Br.mk (fun h => ?_) (fun h => ?_) <;> try simp (dsimp := false) (disch := omega) only [wrap64]) | refine Ob.mk (by first | omega | (intro _ _; rfl) | trivial | (intros; trivial) | assumption | (intro i hi; have h0 : i = 0 := (by omega); subst h0; first | rfl | trivial) | (intro i hi; have h0 : i = 0 ∨ i = 1 := (by omega); rcases h0 with rfl | rfl <;> rfl) | (intro i hi; have h0 : i = 0 ∨ i = 1 ∨ i = 2 := (by omega); rcases h0 with rfl | rfl | rfl <;> rfl)) ?_ | ((first | ((first | refine atF (f := 130) ?_ | refine atQ (f := 130) ?_); (first | (refine cR (hac := implLetterOf_ok p.n.toNat p.m ((lets p.m.length).getD k 0) hst.1.gens (hl1 (by omega))) (hK := ?_)) | (refine cQR (hac := implLetterOf_ok p.n.toNat p.m ((lets p.m.length).getD k 0) hst.1.gens (hl1 (by omega))) (hK := ?_)))) | ((first | refine atF (f := 129) ?_ | refine atQ (f := 129) ?_); (first | (refine cI (hac := implCompose_ok s (letP p.m ((lets p.m.length).getD k 0)) (by omega) (pm_lt hpm (letP_pm hst.1.gens (hl1 (by omega)))) 23) (hK := ?_)) | (refine cQI (hac := implCompose_ok s (letP p.m ((lets p.m.length).getD k 0)) (by omega) (pm_lt hpm (letP_pm hst.1.gens (hl1 (by omega)))) 23) (hK := ?_))))); simp (maxSteps := 1000000) (dsimp := false) (implicitDefEqProofs := false) (disch := omega) only [wrap64, go_sem]) | apply_assumption -exfalso -symm)
  all_goals (first | (show endQ _ _ _ _ _ _ _; (repeat (rename (∀ (A : Fr) (H : Hp), AWP _ _ _ _ A H → _) => hK; clear hK)); (repeat (rename (Fr → Hp → Prop) => K; clear K))) | (show Exists _; (repeat (rename (∀ (A : Fr) (H : Hp), AWP _ _ _ _ A H → _) => hK; clear hK)); (repeat (rename (Fr → Hp → Prop) => K; clear K))) | skip)
  · rw [← nbrs_get p s k (by omega)]
    refine ⟨k + 1, by omega, by omega, ?_⟩
    refine Sub.absorbA (by omega) (by omega) (by omega) (by omega) (by omega) (by omega) (by omega) rfl (by simp only [go_sem] <;> first | trivial | (simp only [Option.some.injEq, AV.v.injEq, AV.own.injEq, AV.list.injEq, Value.int.injEq, Value.bool.injEq, true_and, and_true]; first | omega | (simp; done)) | (simp; done) | (simp; omega)) (by simp only [Fr.low, AV.low, and_true, true_and]; first | done | omega | trivial) (low_upd ⟨by omega, by omega, by omega, by omega, fun i => low_vecF (fun a ha => ?_) i⟩ low_emp)
    simp only [List.mem_cons, List.not_mem_nil, or_false] at ha
    rcases ha with rfl | rfl | rfl <;> trivial
  · have e : k = (nbrs p s).length := by omega
    subst e
    exact end_retII rfl rfl rfl (fun g B hB => Hp.add_some hB)

theorem specInverseU_ok (q : List Int) (hq0 : isPerm q) (d : Nat) : AC Try.prog 156 [ints q] Hp.emp (fun _ => false) (retI d (invp q)) := by
  have hq := hq0.1
  have hp2 := ((isPerm_pm q).1 hq0).2
  refine ac_of_awp (N := ⟨_, fun _ => false, fun _ _ => rfl⟩) Try.func156 rfl (by kernel_rfl) Try.ntmps156 (by simp) ?_
  simp only [argsFr, List.zipIdx_cons, List.zipIdx_nil, go_sem]
  repeat' (first | refine awp_seqK fun K hK => ?_ | (refine awp_regionK 37 rfl ?_; simp only [List.map_cons, List.map_nil]; simp (maxSteps := 1000000) (dsimp := false) (implicitDefEqProofs := false) (disch := omega) only [wrap64, go_sem]) | (refine awp_regionQK 37 (by kernel_rfl) (by kernel_rfl) (by kernel_rfl) ?_; simp only [List.map_cons, List.map_nil]; simp (maxSteps := 1000000) (dsimp := false) (implicitDefEqProofs := false) (disch := omega) only [wrap64, go_sem]) | refine awp_block ?_ | (refine awp_skip ?_; simp only [go_sem]) | (refine awp_exit ?_; simp only [go_sem]) | (refine awp_ret ?_; try simp only [go_sem]) | (refine awp_condP rfl ?_; try simp only [go_sem]) | (refine BrP.mk (fun h => ?_) (fun h => ?_) <;> try simp (dsimp := false) (disch := omega) only [wrap64]) | (refine Br.mk (fun h => ?_) (fun h => ?_) <;> try simp (dsimp := false) (disch := omega) only [wrap64]) | refine Ob.mk (by first | omega | (intro _ _; rfl) | trivial | (intros; trivial) | assumption | (intro i hi; have h0 : i = 0 := (by omega); subst h0; first | rfl | trivial) | (intro i hi; have h0 : i = 0 ∨ i = 1 := (by omega); rcases h0 with rfl | rfl <;> rfl) | (intro i hi; have h0 : i = 0 ∨ i = 1 ∨ i = 2 := (by omega); rcases h0 with rfl | rfl | rfl <;> rfl)) ?_ | ((first | ((first | refine atF (f := 140) ?_ | refine atQ (f := 140) ?_); (first | (refine cV (hac := specIsPermutation_ok q) (hK := ?_)) | (refine cQV (hac := specIsPermutation_ok q) (hK := ?_)))) | ((first | refine atF (f := 174) ?_ | refine atQ (f := 174) ?_); (first | (refine cI (hac := specInverse_ok q (by omega) hp2 9) (hK := ?_)) | (refine cQI (hac := specInverse_ok q (by omega) hp2 9) (hK := ?_))))); simp (maxSteps := 1000000) (dsimp := false) (implicitDefEqProofs := false) (disch := omega) only [wrap64, go_sem]) | apply_assumption -exfalso -symm)
  all_goals (first | (show endQ _ _ _ _ _ _ _; (repeat (rename (∀ (A : Fr) (H : Hp), AWP _ _ _ _ A H → _) => hK; clear hK)); (repeat (rename (Fr → Hp → Prop) => K; clear K))) | (show Exists _; (repeat (rename (∀ (A : Fr) (H : Hp), AWP _ _ _ _ A H → _) => hK; clear hK)); (repeat (rename (Fr → Hp → Prop) => K; clear K))) | skip)
  · exact end_retI' rfl rfl rfl rfl rfl rfl
  · exact absurd hq0 (by assumption)
theorem letP_max {g : List (List Int)} {l : Int} (h : l ≠ 0) : g.getD (max l (-l) - 1).toNat [] = if 0 < l then g.getD (l - 1).toNat [] else g.getD (-l - 1).toNat [] := by
  split
  · rw [show max l (-l) = l by omega]
  · rw [show max l (-l) = -l by omega]
theorem applyLetter_ok (p : Pz) (s : List Int) (l : Int) (hz : isPz p) (hl : inL p.m l) (hs : s.length ≤ 1048576) (hb : ∀ j, j < s.length → 0 ≤ s.getD j 0 ∧ s.getD j 0 < p.n) (d : Nat) : AC Try.prog 110 [pz p, ints s, .v (.int .i64 (l))] Hp.emp (fun _ => false) (retI d (comp s (letP p.m l))) := by
  have hn := hz.n
  have hml := hz.1.2.1
  have hll := hl
  unfold inL at hll
  have hpm := letP_pm hz.gens hl
  have hsz := hpm.1
  have hcast := hz.cast
  have hmx := letP_max (g := p.m) hll.1
  have hpr : ∀ j, j < p.m.length → isPerm (p.m.getD j []) := fun j hj => (hz.1.2.2 j hj).2
  refine ac_of_awp (N := ⟨_, fun _ => false, fun _ _ => rfl⟩) Try.func110 rfl (by kernel_rfl) Try.ntmps110 (by simp) ?_
  simp only [argsFr, List.zipIdx_cons, List.zipIdx_nil, go_sem]
  repeat' (first | refine awp_join 20 (ι :=  List Int) (fun q  => [(7, .list false 1 (q).length (cM iv 0 (q))), (1, .list false 1 (s).length (cM iv 0 (s)))]) (fun q  => Hp.emp) (fun q  => q = letP p.m l) ?_ ?_ | refine awp_seqK fun K hK => ?_ | (refine awp_regionK 135267279 rfl ?_; simp only [List.map_cons, List.map_nil]; simp (maxSteps := 1000000) (dsimp := false) (implicitDefEqProofs := false) (disch := omega) only [wrap64, go_sem, Int.zero_sub]) | (refine awp_regionQK 135267279 (by kernel_rfl) (by kernel_rfl) (by kernel_rfl) ?_; simp only [List.map_cons, List.map_nil]; simp (maxSteps := 1000000) (dsimp := false) (implicitDefEqProofs := false) (disch := omega) only [wrap64, go_sem, Int.zero_sub]) | refine awp_block ?_ | (refine awp_skip ?_; simp only [go_sem, Int.zero_sub]) | (refine awp_exit ?_; simp only [go_sem, Int.zero_sub]) | (refine awp_ret ?_; try simp only [go_sem, Int.zero_sub]) | (refine awp_condP rfl ?_; try simp only [go_sem, Int.zero_sub]) | (refine BrP.mk (fun h => ?_) (fun h => ?_) <;> try simp (dsimp := false) (disch := omega) only [wrap64]) | (refine Br.mk (fun h => ?_) (fun h => ?_) <;> try simp (dsimp := false) (disch := omega) only [wrap64]) | refine Ob.mk (by first | omega | (intro _ _; rfl) | trivial | (intros; trivial) | assumption | (intro i hi; have h0 : i = 0 := (by omega); subst h0; first | rfl | trivial) | (intro i hi; have h0 : i = 0 ∨ i = 1 := (by omega); rcases h0 with rfl | rfl <;> rfl) | (intro i hi; have h0 : i = 0 ∨ i = 1 ∨ i = 2 := (by omega); rcases h0 with rfl | rfl | rfl <;> rfl)) ?_ | ((first | ((first | refine atF (f := 156) ?_ | refine atQ (f := 156) ?_); (first | (refine cI (hac := specInverseU_ok (p.m.getD (max l (-l) - 1).toNat []) (hpr _ (by omega)) 22) (hK := ?_)) | (refine cQI (hac := specInverseU_ok (p.m.getD (max l (-l) - 1).toNat []) (hpr _ (by omega)) 22) (hK := ?_))))); simp (maxSteps := 1000000) (dsimp := false) (implicitDefEqProofs := false) (disch := omega) only [wrap64, go_sem, Int.zero_sub]) | apply_assumption -exfalso -symm)
  all_goals (first | (show endQ _ _ _ _ _ _ _; (repeat (rename (∀ (A : Fr) (H : Hp), AWP _ _ _ _ A H → _) => hK; clear hK)); (repeat (rename (Fr → Hp → Prop) => K; clear K))) | (show Exists _; (repeat (rename (∀ (A : Fr) (H : Hp), AWP _ _ _ _ A H → _) => hK; clear hK)); (repeat (rename (Fr → Hp → Prop) => K; clear K))) | skip)
  · refine ⟨invp (p.m.getD (max l (-l) - 1).toNat []), ?_, Sub.toF (by (repeat' (first | exact Fr.fit_nil _ | (refine Fr.fit_cons rfl ?_ ?_))); all_goals (first | exact Fits.refl _ | exact fits_I' rfl rfl rfl rfl rfl | (refine Fits.ofEq ?_; first | (simp only [Option.some.injEq, AV.v.injEq, AV.own.injEq, AV.list.injEq, Value.int.injEq, Value.bool.injEq, true_and, and_true]; first | omega | (simp; done)) | (simp; done) | (simp; omega)))) (by (repeat' (first | exact Hp.le_emp _ | exact Hp.le_refl _ | refine Hp.le_upd ?_ ?_)); all_goals (first | rfl | (simp only [go_sem]; first | rfl | (refine cellsE ?_ ?_ <;> (simp)) | (simp))))⟩
    rw [hmx]; unfold letP; rw [if_neg (by omega), if_neg (by omega)]
  · refine ⟨p.m.getD (max l (-l) - 1).toNat [], ?_, Sub.toF (by (repeat' (first | exact Fr.fit_nil _ | (refine Fr.fit_cons rfl ?_ ?_))); all_goals (first | exact Fits.refl _ | exact fits_I' rfl rfl rfl rfl rfl | (refine Fits.ofEq ?_; first | (simp only [Option.some.injEq, AV.v.injEq, AV.own.injEq, AV.list.injEq, Value.int.injEq, Value.bool.injEq, true_and, and_true]; first | omega | (simp; done)) | (simp; done) | (simp; omega)))) (by (repeat' (first | exact Hp.le_emp _ | exact Hp.le_refl _ | refine Hp.le_upd ?_ ?_)); all_goals (first | rfl | (simp only [go_sem]; first | rfl | (refine cellsE ?_ ?_ <;> (simp)) | (simp))))⟩
    rw [hmx]; unfold letP; rw [if_pos (by omega), if_pos (by omega)]
  · rintro q rfl
    repeat' (first | refine awp_seqK fun K hK => ?_ | (refine awp_regionK 135267279 rfl ?_; simp only [List.map_cons, List.map_nil]; simp (maxSteps := 1000000) (dsimp := false) (implicitDefEqProofs := false) (disch := omega) only [wrap64, go_sem]) | (refine awp_regionQK 135267279 (by kernel_rfl) (by kernel_rfl) (by kernel_rfl) ?_; simp only [List.map_cons, List.map_nil]; simp (maxSteps := 1000000) (dsimp := false) (implicitDefEqProofs := false) (disch := omega) only [wrap64, go_sem]) | refine awp_block ?_ | (refine awp_skip ?_; simp only [go_sem]) | (refine awp_exit ?_; simp only [go_sem]) | (refine awp_ret ?_; try simp only [go_sem]) | (refine awp_condP rfl ?_; try simp only [go_sem]) | (refine BrP.mk (fun h => ?_) (fun h => ?_) <;> try simp (dsimp := false) (disch := omega) only [wrap64]) | (refine Br.mk (fun h => ?_) (fun h => ?_) <;> try simp (dsimp := false) (disch := omega) only [wrap64]) | refine Ob.mk (by first | omega | (intro _ _; rfl) | trivial | (intros; trivial) | assumption | (intro i hi; have h0 : i = 0 := (by omega); subst h0; first | rfl | trivial) | (intro i hi; have h0 : i = 0 ∨ i = 1 := (by omega); rcases h0 with rfl | rfl <;> rfl) | (intro i hi; have h0 : i = 0 ∨ i = 1 ∨ i = 2 := (by omega); rcases h0 with rfl | rfl | rfl <;> rfl)) ?_ | apply_assumption -exfalso -symm)
    all_goals (first | (show endQ _ _ _ _ _ _ _; (repeat (rename (∀ (A : Fr) (H : Hp), AWP _ _ _ _ A H → _) => hK; clear hK)); (repeat (rename (Fr → Hp → Prop) => K; clear K))) | (show Exists _; (repeat (rename (∀ (A : Fr) (H : Hp), AWP _ _ _ _ A H → _) => hK; clear hK)); (repeat (rename (Fr → Hp → Prop) => K; clear K))) | skip)
    rw [show comp s (letP p.m l) = pick (letP p.m l) s from rfl]
    refine awp_loop (ι := Nat) (fun k => [(9, .v (.int .i64 (k))), (8, .own 23 0 1 (pick (letP p.m l) (s.take k)).length), (7, .list false 1 (letP p.m l).length (cM iv 0 (letP p.m l))), (1, .list false 1 (s).length (cM iv 0 (s)))]) (fun k => Hp.emp.upd 23 (.cells (pick (letP p.m l) (s.take k)).length (cM iv 0 (pick (letP p.m l) (s.take k))))) (fun k => k ≤ s.length) (fun k => s.length - k) 0 ?_ (Sub.toL (by simp only [go_sem] <;> first | trivial | (simp only [Option.some.injEq, AV.v.injEq, AV.own.injEq, AV.list.injEq, Value.int.injEq, Value.bool.injEq, true_and, and_true]; first | omega | (simp [pick]; done)) | (simp [pick]; done) | (simp [pick]; omega)) (by (repeat' (first | exact Hp.le_emp _ | exact Hp.le_refl _ | refine Hp.le_upd ?_ ?_)); all_goals (first | rfl | (simp only [go_sem]; first | rfl | (refine cellsE ?_ ?_ <;> (simp [pick])) | (simp [pick]))))) ?_
    · exact Nat.zero_le _
    intro k hk
    have hc := hb k
    have h1 := pick_length (letP p.m l) (s.take k)
    have h2 := pick_length (letP p.m l) (s.take (k + 1))
    rw [List.length_take] at h1 h2
    have h3 := pick_step (letP p.m l) s k
    repeat' (first | refine awp_seqK fun K hK => ?_ | (refine awp_regionK 135267279 rfl ?_; simp only [List.map_cons, List.map_nil]; simp (maxSteps := 1000000) (dsimp := false) (implicitDefEqProofs := false) (disch := omega) only [wrap64, go_sem]) | (refine awp_regionQK 135267279 (by kernel_rfl) (by kernel_rfl) (by kernel_rfl) ?_; simp only [List.map_cons, List.map_nil]; simp (maxSteps := 1000000) (dsimp := false) (implicitDefEqProofs := false) (disch := omega) only [wrap64, go_sem]) | refine awp_block ?_ | (refine awp_skip ?_; simp only [go_sem]) | (refine awp_exit ?_; simp only [go_sem]) | (refine awp_ret ?_; try simp only [go_sem]) | (refine awp_condP rfl ?_; try simp only [go_sem]) | (refine BrP.mk (fun h => ?_) (fun h => ?_) <;> try simp (dsimp := false) (disch := omega) only [wrap64]) | (refine Br.mk (fun h => ?_) (fun h => ?_) <;> try simp (dsimp := false) (disch := omega) only [wrap64]) | refine Ob.mk (by first | omega | (intro _ _; rfl) | trivial | (intros; trivial) | assumption | (intro i hi; have h0 : i = 0 := (by omega); subst h0; first | rfl | trivial) | (intro i hi; have h0 : i = 0 ∨ i = 1 := (by omega); rcases h0 with rfl | rfl <;> rfl) | (intro i hi; have h0 : i = 0 ∨ i = 1 ∨ i = 2 := (by omega); rcases h0 with rfl | rfl | rfl <;> rfl)) ?_ | apply_assumption -exfalso -symm)
    all_goals (first | (show endQ _ _ _ _ _ _ _; (repeat (rename (∀ (A : Fr) (H : Hp), AWP _ _ _ _ A H → _) => hK; clear hK)); (repeat (rename (Fr → Hp → Prop) => K; clear K))) | (show Exists _; (repeat (rename (∀ (A : Fr) (H : Hp), AWP _ _ _ _ A H → _) => hK; clear hK)); (repeat (rename (Fr → Hp → Prop) => K; clear K))) | skip)
    · refine ⟨k + 1, ?_, ?_, Sub.toL (by simp only [go_sem] <;> first | trivial | (simp only [Option.some.injEq, AV.v.injEq, AV.own.injEq, AV.list.injEq, Value.int.injEq, Value.bool.injEq, true_and, and_true]; first | omega | (simp; done)) | (simp; done) | (simp; omega)) (by (repeat' (first | exact Hp.le_emp _ | exact Hp.le_refl _ | refine Hp.le_upd ?_ ?_)); all_goals (first | rfl | (simp only [go_sem]; first | rfl | (refine cellsE ?_ ?_ <;> (first | omega | exact h3 (by omega))) | (first | omega | exact h3 (by omega)))))⟩
      all_goals omega
    · have e : k = s.length := by omega
      subst e
      rw [List.take_length]
      exact end_retI' rfl rfl rfl rfl rfl rfl
theorem fits_II' {H : Hp} {D : Nat → Prop} {h n : Nat} {xs : List (List Int)} {f : Nat → AV} (hH : H h = some (.cells n f)) (hD : D h) (hn : n = xs.length) (hf : ∀ i, i < n → f i = cM ints [] xs i) : Fits H D (.own h 0 1 n) (intss xs) := by
  subst hn
  refine .own hH hD (by omega) (fun i _ => ?_) (fun i hi => ?_)
  · trivial
  · rw [Nat.zero_add, hf i (by omega)]; exact .refl _
theorem Sub.cellsE {N : Cx} {A : Fr} {H : Hp} (h : Nat) (g : Nat → AV) {n : Nat} {f : Nat → AV} (hH : H h = some (.cells n f)) (hg : ∀ i, i < n → f i = g i) : Sub N A H A (H.upd h (.cells n g)) := by
  refine Sub.fits (fun _ => False) (fun i c hc => ⟨c, hc, .refl c⟩) fun x B hB => ⟨id, ?_⟩
  unfold Hp.upd at hB
  split at hB
  · rename_i e
    subst e
    simp only [Option.some.injEq] at hB
    subst hB
    exact ⟨_, hH, rfl, fun i hi => by rw [hg i hi]; exact .refl _⟩
  · exact ⟨B, hB, BFits.refl _ _ _⟩
theorem apF_ints {n : Nat} {xs : List (List Int)} {y : List Int} {z : Nat → AV} (hn : n = xs.length) : ∀ i, i < n + 1 → apF n (cM ints [] xs) (setF z 0 (ints y)) i = cM ints [] (xs ++ [y]) i := by
  intro i hi
  subst hn
  simp only [apF, setF, cM_app]
  split
  · rw [getD_append, if_pos (by assumption)]
  · have e : i = xs.length := by omega
    subst e
    rw [if_pos (by omega), getD_append, if_neg (by omega), Nat.sub_self]; rfl
theorem tot_bound : ∀ (xss : List (List Int)) (c : Nat), (∀ j, (xss.getD j []).length ≤ c) → tot xss ≤ c * xss.length
  | [], _, _ => by simp [tot]
  | x :: r, c, h => by
    have h1 := tot_bound r c (fun j => by simpa using h (j + 1))
    have h2 : x.length ≤ c := by simpa using h 0
    simp only [tot, List.map_cons, List.sum_cons, List.length_cons] at h1 ⊢
    rw [Nat.mul_add, Nat.mul_one]
    omega
theorem tot_mkR : ∀ (k : Nat) (xss : List (List Int)), tot (mkR k xss) = tot xss
  | _, [] => rfl
  | k, x :: r => by
    have := tot_mkR (k + x.length) r
    simp only [tot, mkR, List.map_cons, List.sum_cons, marks_length] at this ⊢
    omega
theorem mkR_mkR : ∀ (k : Nat) (xss : List (List Int)), mkR k (mkR k xss) = mkR k xss
  | _, [] => rfl
  | k, x :: r => by
    simp only [mkR, marks_length]
    rw [mkR_mkR]
theorem mkR_get_len (k : Nat) (xss : List (List Int)) (j : Nat) : ((mkR k xss).getD j []).length = (xss.getD j []).length := by
  by_cases h : j < xss.length
  · rw [mkR_get xss k j h, marks_length]
  · rw [List.getD_eq_getElem?_getD, List.getElem?_eq_none (by rw [mkR_length]; omega), List.getD_eq_getElem?_getD, List.getElem?_eq_none (by omega)]
theorem held_mkR (xss : List (List Int)) (k : Nat) (hx : xss.length ≤ 1048576) (hb : ∀ j, (xss.getD j []).length ≤ 1048576) (hk : k + tot xss ≤ 1099511627776) :
    AC Try.prog 43 [intss (mkR k xss), .v (.int .i64 (k))] Hp.emp (fun _ => false) (retV (.v (.int .i64 (((k + tot xss : Nat) : Int))))) := by
  have := heldInt64SS_ok (mkR k xss) k (by rw [mkR_length]; exact hx) (fun j => by rw [mkR_get_len]; exact hb j) (by rw [tot_mkR]; exact hk)
  rwa [if_pos (mkR_mkR k xss).symm, tot_mkR] at this
end Go.Proofs.Ytdllbnchcjgcdaa
end
