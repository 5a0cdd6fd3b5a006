import Derived.Test.YtngpacdhpblpbaaD21
import Derived.Test.YtngpacdhpblpbaaD19
import Derived.Test.YtngpacdhpblpbaaD17
import Derived.Test.YtngpacdhpblpbaaD5
/- StateCount: both texts multiply the sizes of the orbits. -/
section
namespace Go.Proofs.Ytngpacdhpblpbaa
open Go.Av
set_option linter.unusedSimpArgs false
set_option linter.unusedVariables false
attribute [local irreducible] AWP CallG Ob Br BrP Go.Av.Sub endQ AOps OpV AC thenA blkA opsVC opVC withA withArgs opsQ opQ CallQ withA2 withArgs2
open Go.Pm (Pm comp invp idn img Ch fixB fact)

/-- The product of the first m orbit sizes. -/
def prO (n : Nat) (C : Ch) : Nat → Nat
  | 0 => 1
  | m + 1 => prO n C m * C.cnt n m
theorem prO_ord (n : Nat) (C : Ch) : ∀ k m, m + k = n → prO n C m * C.ord n k m = prO n C n
  | 0, m, h => by obtain rfl : m = n := by omega
                  simp [Ch.ord]
  | k + 1, m, h => by
    have := prO_ord n C k (m + 1) (by omega)
    rw [← this]
    simp [Ch.ord, prO, Nat.mul_assoc]
theorem cnt_pos {n : Nat} {C : Ch} (w : C.WF n) {i : Nat} (hi : i < n) : 1 ≤ C.cnt n i := by
  unfold Ch.cnt
  refine List.countP_pos_iff.2 ⟨i, by simpa using hi, ?_⟩
  rw [w.t0 i hi]; rfl
theorem ord_pos {n : Nat} {C : Ch} (w : C.WF n) : ∀ k m, m + k = n → 1 ≤ C.ord n k m
  | 0, _, _ => by simp [Ch.ord]
  | k + 1, m, h => Nat.mul_pos (cnt_pos w (by omega)) (ord_pos w k (m + 1) (by omega))
theorem prO_n (n : Nat) (C : Ch) : prO n C n = C.ord n n 0 := by
  have := prO_ord n C n 0 (by omega)
  simpa [prO] using this.symm
theorem prO_le {n : Nat} {C : Ch} (w : C.WF n) (hn : n ≤ 20) {m : Nat} (hm : m ≤ n) : prO n C m ≤ 2432902008176640000 := by
  have h1 := prO_ord n C (n - m) m (by omega)
  have h2 := ord_pos w (n - m) m (by omega)
  have h3 := Ch.ord_le w n 0 (by omega)
  have h4 := Go.Pm.fact_mono hn
  rw [Go.Pm.fact_20] at h4
  rw [prO_n] at h1
  have h5 : prO n C m * 1 ≤ prO n C m * C.ord n (n - m) m := Nat.mul_le_mul_left _ h2
  omega
theorem orb_cnt (n : Nat) (C : Ch) (i : Nat) : (orb (C.T i) n).length = C.cnt n i := by
  unfold orb Ch.cnt
  rw [List.length_map, List.countP_eq_length_filter]
theorem order_ok (n : Nat) (C : Ch) (hn : n ≤ 20) (hw : C.WF n) : AC Try.prog 156 [chI n C, .v (.int .i64 (0))] Hp.emp (fun _ => false) (retV (.v (.int .i64 (prO n C n)))) := by
  unfold chI
  refine ac_of_awp (N := ⟨_, fun _ => false, fun _ _ => rfl⟩) Try.func156 rfl (by kernel_rfl) Try.ntmps156 (by simp) ?_
  simp only [argsFr, List.zipIdx_cons, List.zipIdx_nil, go_sem]
  repeat' (first | refine awp_seqK fun K hK => ?_ | (refine awp_regionK 8307 rfl ?_; simp only [List.map_cons, List.map_nil]; simp (maxSteps := 1000000) (dsimp := false) (implicitDefEqProofs := false) (disch := omega) only [wrap64, go_sem]) | (refine awp_regionQK 8307 (by kernel_rfl) (by kernel_rfl) (by kernel_rfl) ?_; simp only [List.map_cons, List.map_nil]; simp (maxSteps := 1000000) (dsimp := false) (implicitDefEqProofs := false) (disch := omega) only [wrap64, go_sem]) | refine awp_block ?_ | (refine awp_skip ?_; simp only [go_sem]) | (refine awp_exit ?_; simp only [go_sem]) | (refine awp_ret ?_; try simp only [go_sem]) | (refine awp_condP rfl ?_; try simp only [go_sem]) | (refine BrP.mk (fun h => ?_) (fun h => ?_) <;> try simp (dsimp := false) (disch := omega) only [wrap64]) | (refine Br.mk (fun h => ?_) (fun h => ?_) <;> try simp (dsimp := false) (disch := omega) only [wrap64]) | refine Ob.mk (by first | omega | (intro _ _; rfl) | trivial | (intros; trivial) | assumption | (intro i hi; have h0 : i = 0 := (by omega); subst h0; first | rfl | trivial) | (intro i hi; have h0 : i = 0 ∨ i = 1 := (by omega); rcases h0 with rfl | rfl <;> rfl) | (intro i hi; have h0 : i = 0 ∨ i = 1 ∨ i = 2 := (by omega); rcases h0 with rfl | rfl | rfl <;> rfl)) ?_ | apply_assumption -exfalso -symm)
  all_goals (first | (show endQ _ _ _ _ _ _ _; (repeat (rename (∀ (A : Fr) (H : Hp), AWP _ _ _ _ A H → _) => hK; clear hK)); (repeat (rename (Fr → Hp → Prop) => K; clear K))) | (show Exists _; (repeat (rename (∀ (A : Fr) (H : Hp), AWP _ _ _ _ A H → _) => hK; clear hK)); (repeat (rename (Fr → Hp → Prop) => K; clear K))) | skip)
  refine awp_loop (ι := Nat) (fun k => [(6, .v (.int .i64 (k))), (5, .v (.int .i64 (prO n C k))), (0, chI n C)]) (fun k => Hp.emp) (fun k => k ≤ n) (fun k => n - k) 0 (Nat.zero_le _) (Sub.toL (by simp only [go_sem] <;> first | trivial | (simp only [Option.some.injEq, AV.v.injEq, AV.own.injEq, AV.list.injEq, Value.int.injEq, Value.bool.injEq, true_and, and_true]; first | omega | (simp [chI, prO]; done)) | (simp [chI, prO]; done) | (simp [chI, prO]; omega)) (Hp.le_emp _)) ?_
  intro k hk
  unfold chI
  have hT : ∀ y t, y < n → C.T k y = some t → k < n → 0 < t.length := fun y t _ ht hkn => by have := (hw.t1 k y t hkn ht).1.1; omega
  have hc := orb_cnt n C k
  have hp1 := prO_le hw hn hk
  have hp2 := fun h : k + 1 ≤ n => prO_le hw hn h
  have hp3 : prO n C (k + 1) = prO n C k * C.cnt n k := rfl
  repeat' (first | refine awp_seqK fun K hK => ?_ | (refine awp_regionK 8307 rfl ?_; simp only [List.map_cons, List.map_nil]; simp (maxSteps := 1000000) (dsimp := false) (implicitDefEqProofs := false) (disch := omega) only [wrap64, go_sem, rowF_app]) | (refine awp_regionQK 8307 (by kernel_rfl) (by kernel_rfl) (by kernel_rfl) ?_; simp only [List.map_cons, List.map_nil]; simp (maxSteps := 1000000) (dsimp := false) (implicitDefEqProofs := false) (disch := omega) only [wrap64, go_sem, rowF_app]) | refine awp_block ?_ | (refine awp_skip ?_; simp only [go_sem, rowF_app]) | (refine awp_exit ?_; simp only [go_sem, rowF_app]) | (refine awp_ret ?_; try simp only [go_sem, rowF_app]) | (refine awp_condP rfl ?_; try simp only [go_sem, rowF_app]) | (refine BrP.mk (fun h => ?_) (fun h => ?_) <;> try simp (dsimp := false) (disch := omega) only [wrap64]) | (refine Br.mk (fun h => ?_) (fun h => ?_) <;> try simp (dsimp := false) (disch := omega) only [wrap64]) | refine Ob.mk (by first | omega | (intro _ _; rfl) | trivial | (intros; trivial) | assumption | (intro i hi; have h0 : i = 0 := (by omega); subst h0; first | rfl | trivial) | (intro i hi; have h0 : i = 0 ∨ i = 1 := (by omega); rcases h0 with rfl | rfl <;> rfl) | (intro i hi; have h0 : i = 0 ∨ i = 1 ∨ i = 2 := (by omega); rcases h0 with rfl | rfl | rfl <;> rfl)) ?_ | ((first | ((first | refine atF (f := 175) ?_ | refine atQ (f := 175) ?_); (first | (refine cFI (hac := orbitOf_ok n (C.T k) hn (fun y t h1 h2 => hT y t h1 h2 (by omega)) 31) (hK := ?_)) | (refine cQI (hac := orbitOf_ok n (C.T k) hn (fun y t h1 h2 => hT y t h1 h2 (by omega)) 31) (hK := ?_)))) | ((first | refine atF (f := 77) ?_ | refine atQ (f := 77) ?_); (first | (refine cV (hac := length_ok (orb (C.T k) n)) (hK := ?_)) | (refine cQV (hac := length_ok (orb (C.T k) n)) (hK := ?_))))); simp (maxSteps := 1000000) (dsimp := false) (implicitDefEqProofs := false) (disch := omega) only [wrap64, go_sem, rowF_app]) | apply_assumption -exfalso -symm)
  all_goals (first | (show endQ _ _ _ _ _ _ _; (repeat (rename (∀ (A : Fr) (H : Hp), AWP _ _ _ _ A H → _) => hK; clear hK)); (repeat (rename (Fr → Hp → Prop) => K; clear K))) | (show Exists _; (repeat (rename (∀ (A : Fr) (H : Hp), AWP _ _ _ _ A H → _) => hK; clear hK)); (repeat (rename (Fr → Hp → Prop) => K; clear K))) | skip)
  · have hb := hp2 (by omega)
    have hw64 : IntKind.i64.wrap (((prO n C k : Nat) : Int) * (((orb (C.T k) n).length : Nat) : Int)) = ((prO n C (k + 1) : Nat) : Int) := by
      rw [hc, ← Int.natCast_mul, ← hp3]; exact wrap64 (by omega)
    rw [hw64]
    exact ⟨k + 1, by omega, by omega, Sub.toL (by simp only [go_sem] <;> first | trivial | (simp only [Option.some.injEq, AV.v.injEq, AV.own.injEq, AV.list.injEq, Value.int.injEq, Value.bool.injEq, true_and, and_true]; first | omega | (simp; done)) | (simp; done) | (simp; omega)) (Hp.le_refl _)⟩
  · have e : k = n := by omega
    subst e
    exact end_retV rfl rfl
theorem boolToInt_ok (b : Bool) : AC Try.prog 181 [.v (.bool (b))] Hp.emp (fun _ => false) (retV (.v (.int .i64 (if b then 1 else 0)))) := by
  refine ac_of_awp (N := ⟨_, fun _ => false, fun _ _ => rfl⟩) Try.func181 rfl (by kernel_rfl) Try.ntmps181 (by simp) ?_
  simp only [argsFr, List.zipIdx_cons, List.zipIdx_nil, go_sem]
  repeat' (first | refine awp_seqK fun K hK => ?_ | (refine awp_regionK 13 rfl ?_; simp only [List.map_cons, List.map_nil]; simp (maxSteps := 1000000) (dsimp := false) (implicitDefEqProofs := false) (disch := omega) only [wrap64, go_sem]) | (refine awp_regionQK 13 (by kernel_rfl) (by kernel_rfl) (by kernel_rfl) ?_; simp only [List.map_cons, List.map_nil]; simp (maxSteps := 1000000) (dsimp := false) (implicitDefEqProofs := false) (disch := omega) only [wrap64, go_sem]) | refine awp_block ?_ | (refine awp_skip ?_; simp only [go_sem]) | (refine awp_exit ?_; simp only [go_sem]) | (refine awp_ret ?_; try simp only [go_sem]) | (refine awp_condP rfl ?_; try simp only [go_sem]) | (refine BrP.mk (fun h => ?_) (fun h => ?_) <;> try simp (dsimp := false) (disch := omega) only [wrap64]) | (refine Br.mk (fun h => ?_) (fun h => ?_) <;> try simp (dsimp := false) (disch := omega) only [wrap64]) | refine Ob.mk (by first | omega | (intro _ _; rfl) | trivial | (intros; trivial) | assumption | (intro i hi; have h0 : i = 0 := (by omega); subst h0; first | rfl | trivial) | (intro i hi; have h0 : i = 0 ∨ i = 1 := (by omega); rcases h0 with rfl | rfl <;> rfl) | (intro i hi; have h0 : i = 0 ∨ i = 1 ∨ i = 2 := (by omega); rcases h0 with rfl | rfl | rfl <;> rfl)) ?_ | apply_assumption -exfalso -symm)
  all_goals (first | (show endQ _ _ _ _ _ _ _; (repeat (rename (∀ (A : Fr) (H : Hp), AWP _ _ _ _ A H → _) => hK; clear hK)); (repeat (rename (Fr → Hp → Prop) => K; clear K))) | (show Exists _; (repeat (rename (∀ (A : Fr) (H : Hp), AWP _ _ _ _ A H → _) => hK; clear hK)); (repeat (rename (Fr → Hp → Prop) => K; clear K))) | skip)
  all_goals exact end_retV' rfl rfl (by simp [*])
/-- The orbit sizes of the first m levels. -/
def szO (n : Nat) (C : Ch) (m : Nat) : List Int := (List.range m).map fun i : Nat => ((C.cnt n i : Nat) : Int)
theorem szO_length (n : Nat) (C : Ch) (m : Nat) : (szO n C m).length = m := by simp [szO]
theorem szO_succ (n : Nat) (C : Ch) (m : Nat) : szO n C (m + 1) = szO n C m ++ [((C.cnt n m : Nat) : Int)] := by simp [szO, List.range_succ]
theorem szO_get (n : Nat) (C : Ch) {m i : Nat} (h : i < m) : (szO n C m).getD i 0 = ((C.cnt n i : Nat) : Int) := by simp [szO, List.getD_eq_getElem?_getD, h]
/-- How many of the first y points are in the orbit of level i. -/
def cnU (C : Ch) (i y : Nat) : Nat := (List.range y).countP fun z => (C.T i z).isSome
theorem cnU_succ (C : Ch) (i y : Nat) : cnU C i (y + 1) = cnU C i y + if (C.T i y).isSome then 1 else 0 := by
  unfold cnU
  rw [List.range_succ, List.countP_append]
  simp [List.countP_cons]
theorem cnU_le (C : Ch) (i y : Nat) : cnU C i y ≤ y := by
  unfold cnU; exact Nat.le_trans List.countP_le_length (by simp)
theorem orbitSizes_ok (n : Nat) (C : Ch) (hn : n ≤ 20) (hw : C.WF n) (d : Nat) : AC Try.prog 157 [chS n C] Hp.emp (fun _ => false) (retI d (szO n C n)) := by
  unfold chS
  refine ac_of_awp (N := ⟨_, fun _ => false, fun _ _ => rfl⟩) Try.func157 rfl (by kernel_rfl) Try.ntmps157 (by simp) ?_
  simp only [argsFr, List.zipIdx_cons, List.zipIdx_nil, go_sem]
  repeat' (first | refine awp_seqK fun K hK => ?_ | (refine awp_regionK 2105469 rfl ?_; simp only [List.map_cons, List.map_nil]; simp (maxSteps := 1000000) (dsimp := false) (implicitDefEqProofs := false) (disch := omega) only [wrap64, go_sem]) | (refine awp_regionQK 2105469 (by kernel_rfl) (by kernel_rfl) (by kernel_rfl) ?_; simp only [List.map_cons, List.map_nil]; simp (maxSteps := 1000000) (dsimp := false) (implicitDefEqProofs := false) (disch := omega) only [wrap64, go_sem]) | refine awp_block ?_ | (refine awp_skip ?_; simp only [go_sem]) | (refine awp_exit ?_; simp only [go_sem]) | (refine awp_ret ?_; try simp only [go_sem]) | (refine awp_condP rfl ?_; try simp only [go_sem]) | (refine BrP.mk (fun h => ?_) (fun h => ?_) <;> try simp (dsimp := false) (disch := omega) only [wrap64]) | (refine Br.mk (fun h => ?_) (fun h => ?_) <;> try simp (dsimp := false) (disch := omega) only [wrap64]) | refine Ob.mk (by first | omega | (intro _ _; rfl) | trivial | (intros; trivial) | assumption | (intro i hi; have h0 : i = 0 := (by omega); subst h0; first | rfl | trivial) | (intro i hi; have h0 : i = 0 ∨ i = 1 := (by omega); rcases h0 with rfl | rfl <;> rfl) | (intro i hi; have h0 : i = 0 ∨ i = 1 ∨ i = 2 := (by omega); rcases h0 with rfl | rfl | rfl <;> rfl)) ?_ | apply_assumption -exfalso -symm)
  all_goals (first | (show endQ _ _ _ _ _ _ _; (repeat (rename (∀ (A : Fr) (H : Hp), AWP _ _ _ _ A H → _) => hK; clear hK)); (repeat (rename (Fr → Hp → Prop) => K; clear K))) | (show Exists _; (repeat (rename (∀ (A : Fr) (H : Hp), AWP _ _ _ _ A H → _) => hK; clear hK)); (repeat (rename (Fr → Hp → Prop) => K; clear K))) | skip)
  refine awp_loop (ι := Nat) (fun i => [(4, .v (.int .i64 (i))), (3, .own 7 0 1 (szO n C i).length), (0, chS n C)]) (fun i => Hp.emp.upd 7 (.cells (szO n C i).length (cM iv 0 (szO n C i)))) (fun i => i ≤ n) (fun i => n - i) 0 ?_ (Sub.toL (by simp only [go_sem] <;> first | trivial | (simp only [Option.some.injEq, AV.v.injEq, AV.own.injEq, AV.list.injEq, Value.int.injEq, Value.bool.injEq, true_and, and_true]; first | omega | (simp [szO, chS]; done)) | (simp [szO, chS]; done) | (simp [szO, chS]; omega)) (by (repeat' (first | exact Hp.le_emp _ | exact Hp.le_refl _ | refine Hp.le_upd ?_ ?_)); all_goals (first | rfl | (simp only [go_sem]; first | rfl | (refine cellsE ?_ ?_ <;> (simp [szO, chS])) | (simp [szO, chS]))))) ?_
  · exact Nat.zero_le _
  intro i hi
  unfold chS
  have hsl := szO_length n C i
  have hss := szO_succ n C i
  have hi2 : i < n → ((i : Nat) : Int) < n := fun h => by omega
  repeat' (first | refine awp_seqK fun K hK => ?_ | (refine awp_regionK 2105469 rfl ?_; simp only [List.map_cons, List.map_nil]; simp (maxSteps := 1000000) (dsimp := false) (implicitDefEqProofs := false) (disch := omega) only [wrap64, go_sem]) | (refine awp_regionQK 2105469 (by kernel_rfl) (by kernel_rfl) (by kernel_rfl) ?_; simp only [List.map_cons, List.map_nil]; simp (maxSteps := 1000000) (dsimp := false) (implicitDefEqProofs := false) (disch := omega) only [wrap64, go_sem]) | refine awp_block ?_ | (refine awp_skip ?_; simp only [go_sem]) | (refine awp_exit ?_; simp only [go_sem]) | (refine awp_ret ?_; try simp only [go_sem]) | (refine awp_condP rfl ?_; try simp only [go_sem]) | (refine BrP.mk (fun h => ?_) (fun h => ?_) <;> try simp (dsimp := false) (disch := omega) only [wrap64]) | (refine Br.mk (fun h => ?_) (fun h => ?_) <;> try simp (dsimp := false) (disch := omega) only [wrap64]) | refine Ob.mk (by first | omega | (intro _ _; rfl) | trivial | (intros; trivial) | assumption | (intro i hi; have h0 : i = 0 := (by omega); subst h0; first | rfl | trivial) | (intro i hi; have h0 : i = 0 ∨ i = 1 := (by omega); rcases h0 with rfl | rfl <;> rfl) | (intro i hi; have h0 : i = 0 ∨ i = 1 ∨ i = 2 := (by omega); rcases h0 with rfl | rfl | rfl <;> rfl)) ?_ | apply_assumption -exfalso -symm)
  all_goals (first | (show endQ _ _ _ _ _ _ _; (repeat (rename (∀ (A : Fr) (H : Hp), AWP _ _ _ _ A H → _) => hK; clear hK)); (repeat (rename (Fr → Hp → Prop) => K; clear K))) | (show Exists _; (repeat (rename (∀ (A : Fr) (H : Hp), AWP _ _ _ _ A H → _) => hK; clear hK)); (repeat (rename (Fr → Hp → Prop) => K; clear K))) | skip)
  · refine awp_loop (ι := Nat) (fun y => [(6, .v (.int .i64 (y))), (5, .v (.int .i64 (cnU C i y))), (4, .v (.int .i64 (i))), (3, .own 7 0 1 (szO n C i).length), (0, chS n C)]) (fun y => Hp.emp.upd 7 (.cells (szO n C i).length (cM iv 0 (szO n C i)))) (fun y => y ≤ n) (fun y => n - y) 0 ?_ (Sub.toL (by simp only [go_sem] <;> first | trivial | (simp only [Option.some.injEq, AV.v.injEq, AV.own.injEq, AV.list.injEq, Value.int.injEq, Value.bool.injEq, true_and, and_true]; first | omega | (simp [cnU, chS]; done)) | (simp [cnU, chS]; done) | (simp [cnU, chS]; omega)) (by (repeat' (first | exact Hp.le_emp _ | exact Hp.le_refl _ | refine Hp.le_upd ?_ ?_)); all_goals (first | rfl | (simp only [go_sem]; first | rfl | (refine cellsE ?_ ?_ <;> (simp [cnU, chS])) | (simp [cnU, chS]))))) ?_
    · exact Nat.zero_le _
    intro y hy
    unfold chS
    have hcl := cnU_le C i y
    have hcs := cnU_succ C i y
    have hrow : ¬ y < n → cnU C i y = C.cnt n i := fun h => by rw [show y = n by omega]; rfl
    cases hT : C.T i y with
    | none =>
      have hTF := tF_none hT
      rw [hT] at hcs
      simp only [Option.isSome_none, Bool.false_eq_true, if_false, Nat.add_zero] at hcs
      repeat' (first | refine awp_seqK fun K hK => ?_ | (refine awp_regionK 2105469 rfl ?_; simp only [List.map_cons, List.map_nil]; simp (maxSteps := 1000000) (dsimp := false) (implicitDefEqProofs := false) (disch := omega) only [wrap64, go_sem, rowF_app, hTF]) | (refine awp_regionQK 2105469 (by kernel_rfl) (by kernel_rfl) (by kernel_rfl) ?_; simp only [List.map_cons, List.map_nil]; simp (maxSteps := 1000000) (dsimp := false) (implicitDefEqProofs := false) (disch := omega) only [wrap64, go_sem, rowF_app, hTF]) | refine awp_block ?_ | (refine awp_skip ?_; simp only [go_sem, rowF_app, hTF]) | (refine awp_exit ?_; simp only [go_sem, rowF_app, hTF]) | (refine awp_ret ?_; try simp only [go_sem, rowF_app, hTF]) | (refine awp_condP rfl ?_; try simp only [go_sem, rowF_app, hTF]) | (refine BrP.mk (fun h => ?_) (fun h => ?_) <;> try simp (dsimp := false) (disch := omega) only [wrap64]) | (refine Br.mk (fun h => ?_) (fun h => ?_) <;> try simp (dsimp := false) (disch := omega) only [wrap64]) | refine Ob.mk (by first | omega | (intro _ _; rfl) | trivial | (intros; trivial) | assumption | (intro i hi; have h0 : i = 0 := (by omega); subst h0; first | rfl | trivial) | (intro i hi; have h0 : i = 0 ∨ i = 1 := (by omega); rcases h0 with rfl | rfl <;> rfl) | (intro i hi; have h0 : i = 0 ∨ i = 1 ∨ i = 2 := (by omega); rcases h0 with rfl | rfl | rfl <;> rfl)) ?_ | ((first | ((first | refine atF (f := 181) ?_ | refine atQ (f := 181) ?_); (first | (refine cV (hac := boolToInt_ok _) (hK := ?_)) | (refine cQV (hac := boolToInt_ok _) (hK := ?_))))); simp (maxSteps := 1000000) (dsimp := false) (implicitDefEqProofs := false) (disch := omega) only [wrap64, go_sem, rowF_app, hTF]) | apply_assumption -exfalso -symm)
      all_goals (first | (show endQ _ _ _ _ _ _ _; (repeat (rename (∀ (A : Fr) (H : Hp), AWP _ _ _ _ A H → _) => hK; clear hK)); (repeat (rename (Fr → Hp → Prop) => K; clear K))) | (show Exists _; (repeat (rename (∀ (A : Fr) (H : Hp), AWP _ _ _ _ A H → _) => hK; clear hK)); (repeat (rename (Fr → Hp → Prop) => K; clear K))) | skip)
      · refine ⟨y + 1, by omega, by omega, ?_⟩
        rw [hcs]
        exact Sub.toL (by simp only [go_sem] <;> first | trivial | (simp only [Option.some.injEq, AV.v.injEq, AV.own.injEq, AV.list.injEq, Value.int.injEq, Value.bool.injEq, true_and, and_true]; first | omega | (simp; done)) | (simp; done) | (simp; omega)) (Hp.le_refl _)
      · rw [hrow (by omega), ← hss]
        refine ⟨i + 1, by omega, by omega, ?_⟩
        have e : (szO n C (i + 1)).length = (szO n C i).length + 1 := by rw [hss]; simp
        rw [e]
        exact Sub.toL (by simp only [go_sem] <;> first | trivial | (simp only [Option.some.injEq, AV.v.injEq, AV.own.injEq, AV.list.injEq, Value.int.injEq, Value.bool.injEq, true_and, and_true]; first | omega | (simp; done)) | (simp; done) | (simp; omega)) (Hp.le_upd rfl (Hp.le_emp _))
    | some t =>
      have hTF := tF_some hT
      rw [hT] at hcs
      simp only [Option.isSome_some, if_true] at hcs
      have htl : i < n → 0 < t.length := fun h => by have := (hw.t1 i y t h hT).1.1; omega
      have hd : i < n → decide ((0 : Int) < (t.length : Int)) = true := fun h => decide_eq_true (by have := htl h; omega)
      repeat' (first | refine awp_seqK fun K hK => ?_ | (refine awp_regionK 2105469 rfl ?_; simp only [List.map_cons, List.map_nil]; simp (maxSteps := 1000000) (dsimp := false) (implicitDefEqProofs := false) (disch := omega) only [wrap64, go_sem, rowF_app, hTF]) | (refine awp_regionQK 2105469 (by kernel_rfl) (by kernel_rfl) (by kernel_rfl) ?_; simp only [List.map_cons, List.map_nil]; simp (maxSteps := 1000000) (dsimp := false) (implicitDefEqProofs := false) (disch := omega) only [wrap64, go_sem, rowF_app, hTF]) | refine awp_block ?_ | (refine awp_skip ?_; simp only [go_sem, rowF_app, hTF]) | (refine awp_exit ?_; simp only [go_sem, rowF_app, hTF]) | (refine awp_ret ?_; try simp only [go_sem, rowF_app, hTF]) | (refine awp_condP rfl ?_; try simp only [go_sem, rowF_app, hTF]) | (refine BrP.mk (fun h => ?_) (fun h => ?_) <;> try simp (dsimp := false) (disch := omega) only [wrap64]) | (refine Br.mk (fun h => ?_) (fun h => ?_) <;> try simp (dsimp := false) (disch := omega) only [wrap64]) | refine Ob.mk (by first | omega | (intro _ _; rfl) | trivial | (intros; trivial) | assumption | (intro i hi; have h0 : i = 0 := (by omega); subst h0; first | rfl | trivial) | (intro i hi; have h0 : i = 0 ∨ i = 1 := (by omega); rcases h0 with rfl | rfl <;> rfl) | (intro i hi; have h0 : i = 0 ∨ i = 1 ∨ i = 2 := (by omega); rcases h0 with rfl | rfl | rfl <;> rfl)) ?_ | ((first | ((first | refine atF (f := 181) ?_ | refine atQ (f := 181) ?_); (first | (refine cV (hac := boolToInt_ok _) (hK := ?_)) | (refine cQV (hac := boolToInt_ok _) (hK := ?_))))); simp (maxSteps := 1000000) (dsimp := false) (implicitDefEqProofs := false) (disch := omega) only [wrap64, go_sem, rowF_app, hTF]) | apply_assumption -exfalso -symm)
      all_goals (first | (show endQ _ _ _ _ _ _ _; (repeat (rename (∀ (A : Fr) (H : Hp), AWP _ _ _ _ A H → _) => hK; clear hK)); (repeat (rename (Fr → Hp → Prop) => K; clear K))) | (show Exists _; (repeat (rename (∀ (A : Fr) (H : Hp), AWP _ _ _ _ A H → _) => hK; clear hK)); (repeat (rename (Fr → Hp → Prop) => K; clear K))) | skip)
      · refine ⟨y + 1, by omega, by omega, ?_⟩
        rw [hcs, hd (by omega)]
        exact Sub.toL (by simp only [go_sem] <;> first | trivial | (simp only [Option.some.injEq, AV.v.injEq, AV.own.injEq, AV.list.injEq, Value.int.injEq, Value.bool.injEq, true_and, and_true]; first | omega | (simp; done)) | (simp; done) | (simp; omega)) (Hp.le_refl _)
      · rw [hrow (by omega), ← hss]
        refine ⟨i + 1, by omega, by omega, ?_⟩
        have e : (szO n C (i + 1)).length = (szO n C i).length + 1 := by rw [hss]; simp
        rw [e]
        exact Sub.toL (by simp only [go_sem] <;> first | trivial | (simp only [Option.some.injEq, AV.v.injEq, AV.own.injEq, AV.list.injEq, Value.int.injEq, Value.bool.injEq, true_and, and_true]; first | omega | (simp; done)) | (simp; done) | (simp; omega)) (Hp.le_upd rfl (Hp.le_emp _))
  · have e : i = n := by omega
    subst e
    exact end_retI' rfl rfl rfl rfl rfl rfl
theorem chainOrder_ok (n : Nat) (C : Ch) (hn : n ≤ 20) (hw : C.WF n) : AC Try.prog 113 [chS n C] Hp.emp (fun _ => false) (retV (.v (.int .i64 (prO n C n)))) := by
  have hac := orbitSizes_ok n C hn hw 9
  unfold chS at hac ⊢
  have hsl := szO_length n C n
  refine ac_of_awp (N := ⟨_, fun _ => false, fun _ _ => rfl⟩) Try.func113 rfl (by kernel_rfl) Try.ntmps113 (by simp) ?_
  simp only [argsFr, List.zipIdx_cons, List.zipIdx_nil, go_sem]
  repeat' (first | refine awp_seqK fun K hK => ?_ | (refine awp_regionK 2109 rfl ?_; simp only [List.map_cons, List.map_nil]; simp (maxSteps := 1000000) (dsimp := false) (implicitDefEqProofs := false) (disch := omega) only [wrap64, go_sem]) | (refine awp_regionQK 2109 (by kernel_rfl) (by kernel_rfl) (by kernel_rfl) ?_; simp only [List.map_cons, List.map_nil]; simp (maxSteps := 1000000) (dsimp := false) (implicitDefEqProofs := false) (disch := omega) only [wrap64, go_sem]) | refine awp_block ?_ | (refine awp_skip ?_; simp only [go_sem]) | (refine awp_exit ?_; simp only [go_sem]) | (refine awp_ret ?_; try simp only [go_sem]) | (refine awp_condP rfl ?_; try simp only [go_sem]) | (refine BrP.mk (fun h => ?_) (fun h => ?_) <;> try simp (dsimp := false) (disch := omega) only [wrap64]) | (refine Br.mk (fun h => ?_) (fun h => ?_) <;> try simp (dsimp := false) (disch := omega) only [wrap64]) | refine Ob.mk (by first | omega | (intro _ _; rfl) | trivial | (intros; trivial) | assumption | (intro i hi; have h0 : i = 0 := (by omega); subst h0; first | rfl | trivial) | (intro i hi; have h0 : i = 0 ∨ i = 1 := (by omega); rcases h0 with rfl | rfl <;> rfl) | (intro i hi; have h0 : i = 0 ∨ i = 1 ∨ i = 2 := (by omega); rcases h0 with rfl | rfl | rfl <;> rfl)) ?_ | ((first | (refine cFI (hac := hac) (hK := ?_)) | (refine cQI (hac := hac) (hK := ?_))); simp (maxSteps := 1000000) (dsimp := false) (implicitDefEqProofs := false) (disch := omega) only [wrap64, go_sem]) | apply_assumption -exfalso -symm)
  all_goals (first | (show endQ _ _ _ _ _ _ _; (repeat (rename (∀ (A : Fr) (H : Hp), AWP _ _ _ _ A H → _) => hK; clear hK)); (repeat (rename (Fr → Hp → Prop) => K; clear K))) | (show Exists _; (repeat (rename (∀ (A : Fr) (H : Hp), AWP _ _ _ _ A H → _) => hK; clear hK)); (repeat (rename (Fr → Hp → Prop) => K; clear K))) | skip)
  refine awp_loop (ι := Nat) (fun k => [(5, .v (.int .i64 (k))), (4, .list false 1 (szO n C n).length (cM iv 0 (szO n C n))), (3, .v (.int .i64 (prO n C k)))]) (fun k => Hp.emp) (fun k => k ≤ n) (fun k => n - k) 0 (Nat.zero_le _) (Sub.toL (by simp only [go_sem] <;> first | trivial | (simp only [Option.some.injEq, AV.v.injEq, AV.own.injEq, AV.list.injEq, Value.int.injEq, Value.bool.injEq, true_and, and_true]; first | omega | (simp [prO]; done)) | (simp [prO]; done) | (simp [prO]; omega)) (Hp.le_emp _)) ?_
  intro k hk
  have hp2 := fun h : k + 1 ≤ n => prO_le hw hn h
  have hp3 : prO n C (k + 1) = prO n C k * C.cnt n k := rfl
  have hg : k < n → (szO n C n).getD k 0 = ((C.cnt n k : Nat) : Int) := fun h => szO_get n C h
  have hw64 : k < n → IntKind.i64.wrap (((prO n C k : Nat) : Int) * (szO n C n).getD k 0) = ((prO n C (k + 1) : Nat) : Int) := fun h => by
    rw [hg h, ← Int.natCast_mul, ← hp3]
    have := hp2 (by omega)
    exact wrap64 (by omega)
  repeat' (first | refine awp_seqK fun K hK => ?_ | (refine awp_regionK 2109 rfl ?_; simp only [List.map_cons, List.map_nil]; simp (maxSteps := 1000000) (dsimp := false) (implicitDefEqProofs := false) (disch := omega) only [wrap64, go_sem, hw64]) | (refine awp_regionQK 2109 (by kernel_rfl) (by kernel_rfl) (by kernel_rfl) ?_; simp only [List.map_cons, List.map_nil]; simp (maxSteps := 1000000) (dsimp := false) (implicitDefEqProofs := false) (disch := omega) only [wrap64, go_sem, hw64]) | refine awp_block ?_ | (refine awp_skip ?_; simp only [go_sem, hw64]) | (refine awp_exit ?_; simp only [go_sem, hw64]) | (refine awp_ret ?_; try simp only [go_sem, hw64]) | (refine awp_condP rfl ?_; try simp only [go_sem, hw64]) | (refine BrP.mk (fun h => ?_) (fun h => ?_) <;> try simp (dsimp := false) (disch := omega) only [wrap64]) | (refine Br.mk (fun h => ?_) (fun h => ?_) <;> try simp (dsimp := false) (disch := omega) only [wrap64]) | refine Ob.mk (by first | omega | (intro _ _; rfl) | trivial | (intros; trivial) | assumption | (intro i hi; have h0 : i = 0 := (by omega); subst h0; first | rfl | trivial) | (intro i hi; have h0 : i = 0 ∨ i = 1 := (by omega); rcases h0 with rfl | rfl <;> rfl) | (intro i hi; have h0 : i = 0 ∨ i = 1 ∨ i = 2 := (by omega); rcases h0 with rfl | rfl | rfl <;> rfl)) ?_ | apply_assumption -exfalso -symm)
  all_goals (first | (show endQ _ _ _ _ _ _ _; (repeat (rename (∀ (A : Fr) (H : Hp), AWP _ _ _ _ A H → _) => hK; clear hK)); (repeat (rename (Fr → Hp → Prop) => K; clear K))) | (show Exists _; (repeat (rename (∀ (A : Fr) (H : Hp), AWP _ _ _ _ A H → _) => hK; clear hK)); (repeat (rename (Fr → Hp → Prop) => K; clear K))) | skip)
  · exact ⟨k + 1, by omega, by omega, Sub.toL (by simp only [go_sem] <;> first | trivial | (simp only [Option.some.injEq, AV.v.injEq, AV.own.injEq, AV.list.injEq, Value.int.injEq, Value.bool.injEq, true_and, and_true]; first | omega | (simp; done)) | (simp; done) | (simp; omega)) (Hp.le_refl _)⟩
  · have e : k = n := by omega
    subst e
    exact end_retV rfl rfl
theorem of_ord {n : Nat} {gs : List (List Int)} {C : Ch} (h : Of n gs C) : prO n C n = Go.Pm.ordG n gs := by
  rw [prO_n]; exact (Go.Pm.ordG_chain h.1 h.2.1 h.2.2).symm
theorem specGroupOrder_ok (n : Nat) (g : List (List Int)) (hn : 1 ≤ n ∧ n ≤ 20) (hg : isGens n g) : AC Try.prog 49 [.v (.int .i64 (n)), intss g] Hp.emp (fun _ => false) (retV (.v (.int .i64 (((Go.Pm.ordG n g : Nat) : Int))))) := by
  have hn2 := hn.2
  have hgp : gensP n g := by have := gensP.of hg; simpa using this
  have hd1 : decide (isGens (n : Int) g) = true := decide_eq_true hg
  have hb := buildChain_ok n g hn hgp hg.2.1
  refine ac_of_awp (N := ⟨_, fun _ => false, fun _ _ => rfl⟩) Try.func49 rfl (by kernel_rfl) Try.ntmps49 (by simp) ?_
  simp only [argsFr, List.zipIdx_cons, List.zipIdx_nil, go_sem]
  repeat' (first | refine awp_seqK fun K hK => ?_ | (refine awp_regionK 275 rfl ?_; simp only [List.map_cons, List.map_nil]; simp (maxSteps := 1000000) (dsimp := false) (implicitDefEqProofs := false) (disch := omega) only [wrap64, go_sem, hd1]) | (refine awp_regionQK 275 (by kernel_rfl) (by kernel_rfl) (by kernel_rfl) ?_; simp only [List.map_cons, List.map_nil]; simp (maxSteps := 1000000) (dsimp := false) (implicitDefEqProofs := false) (disch := omega) only [wrap64, go_sem, hd1]) | refine awp_block ?_ | (refine awp_skip ?_; simp only [go_sem, hd1]) | (refine awp_exit ?_; simp only [go_sem, hd1]) | (refine awp_ret ?_; try simp only [go_sem, hd1]) | (refine awp_condP rfl ?_; try simp only [go_sem, hd1]) | (refine BrP.mk (fun h => ?_) (fun h => ?_) <;> try simp (dsimp := false) (disch := omega) only [wrap64]) | (refine Br.mk (fun h => ?_) (fun h => ?_) <;> try simp (dsimp := false) (disch := omega) only [wrap64]) | refine Ob.mk (by first | omega | (intro _ _; rfl) | trivial | (intros; trivial) | assumption | (intro i hi; have h0 : i = 0 := (by omega); subst h0; first | rfl | trivial) | (intro i hi; have h0 : i = 0 ∨ i = 1 := (by omega); rcases h0 with rfl | rfl <;> rfl) | (intro i hi; have h0 : i = 0 ∨ i = 1 ∨ i = 2 := (by omega); rcases h0 with rfl | rfl | rfl <;> rfl)) ?_ | ((first | ((first | refine atF (f := 27) ?_ | refine atQ (f := 27) ?_); (first | (refine cV (hac := specIsGeneratorSet_ok n g) (hK := ?_)) | (refine cQV (hac := specIsGeneratorSet_ok n g) (hK := ?_)))) | ((first | refine atF (f := 114) ?_ | refine atQ (f := 114) ?_); refine callNew hb (.inr rfl) hn2 rfl rfl (fun C hC => ?_)) | ((first | refine atF (f := 113) ?_ | refine atQ (f := 113) ?_); refine cV (hfit := .cons (fits_chS (le_add _ _) hn2 (fun _ => trivial)) .nil) (hac := chainOrder_ok n C hn2 hC.1) (hK := ?_))); simp (maxSteps := 1000000) (dsimp := false) (implicitDefEqProofs := false) (disch := omega) only [wrap64, go_sem, hd1]) | apply_assumption -exfalso -symm)
  all_goals (first | (show endQ _ _ _ _ _ _ _; (repeat (rename (∀ (A : Fr) (H : Hp), AWP _ _ _ _ A H → _) => hK; clear hK)); (repeat (rename (Fr → Hp → Prop) => K; clear K))) | (show Exists _; (repeat (rename (∀ (A : Fr) (H : Hp), AWP _ _ _ _ A H → _) => hK; clear hK)); (repeat (rename (Fr → Hp → Prop) => K; clear K))) | skip)
  exact end_retV' rfl rfl (by rw [of_ord hC])
end Go.Proofs.Ytngpacdhpblpbaa
end
/- Orders of groups; the action on blocks, of the specification; orders of blocks' groups. -/
section
namespace Go.Proofs.Ytngpacdhpblpbaa
open Go.Av
set_option linter.unusedSimpArgs false
set_option linter.unusedVariables false
attribute [local irreducible] AWP CallG Ob Br BrP Go.Av.Sub endQ AOps OpV AC thenA blkA opsVC opVC withA withArgs opsQ opQ CallQ withA2 withArgs2
open Go.Pm (Pm ptI partI IsPart ixP Rsp actP img ordG ordG_le ordG_pos)
/-- The order of a group; 0 where there is none. -/
noncomputable def goP (n : Int) (gs : List (List Int)) : Nat := if isGens n gs then ordG n.toNat gs else 0
theorem goP_le (n : Int) (gs : List (List Int)) : goP n gs ≤ 2432902008176640000 := by
  unfold goP
  split
  · rename_i h
    obtain ⟨h1, h2, h3⟩ := gens_pm h
    exact ordG_le h1 (by omega)
  · omega
theorem goP_pos {n : Int} {gs : List (List Int)} (h : isGens n gs) : 1 ≤ goP n gs := by
  unfold goP; rw [if_pos h]; exact ordG_pos (gens_pm h).1
theorem specGroupOrderI_ok (n : Int) (gs : List (List Int)) : AC Try.prog 49 [.v (.int .i64 (n)), intss gs] Hp.emp (fun _ => false) (retV (.v (.int .i64 (((goP n gs : Nat) : Int))))) := by
  by_cases hok : isGens n gs
  · obtain ⟨h1, h2, h3⟩ := gens_pm hok
    have e : n = ((n.toNat : Nat) : Int) := by omega
    have := specGroupOrder_ok n.toNat gs (by omega) (by rw [← e]; exact hok)
    rw [← e] at this
    rwa [show goP n gs = ordG n.toNat gs from if_pos hok]
  · have hd : decide (isGens n gs) = false := decide_eq_false hok
    rw [show goP n gs = 0 from if_neg hok]
    refine ac_of_awp (N := ⟨_, fun _ => false, fun _ _ => rfl⟩) Try.func49 rfl (by kernel_rfl) Try.ntmps49 (by simp) ?_
    simp only [argsFr, List.zipIdx_cons, List.zipIdx_nil, go_sem]
    repeat' (first | refine awp_seqK fun K hK => ?_ | (refine awp_regionK 275 rfl ?_; simp only [List.map_cons, List.map_nil]; simp (maxSteps := 1000000) (dsimp := false) (implicitDefEqProofs := false) (disch := omega) only [wrap64, go_sem, hd]) | (refine awp_regionQK 275 (by kernel_rfl) (by kernel_rfl) (by kernel_rfl) ?_; simp only [List.map_cons, List.map_nil]; simp (maxSteps := 1000000) (dsimp := false) (implicitDefEqProofs := false) (disch := omega) only [wrap64, go_sem, hd]) | refine awp_block ?_ | (refine awp_skip ?_; simp only [go_sem, hd]) | (refine awp_exit ?_; simp only [go_sem, hd]) | (refine awp_ret ?_; try simp only [go_sem, hd]) | (refine awp_condP rfl ?_; try simp only [go_sem, hd]) | (refine BrP.mk (fun h => ?_) (fun h => ?_) <;> try simp (dsimp := false) (disch := omega) only [wrap64]) | (refine Br.mk (fun h => ?_) (fun h => ?_) <;> try simp (dsimp := false) (disch := omega) only [wrap64]) | refine Ob.mk (by first | omega | (intro _ _; rfl) | trivial | (intros; trivial) | assumption | (intro i hi; have h0 : i = 0 := (by omega); subst h0; first | rfl | trivial) | (intro i hi; have h0 : i = 0 ∨ i = 1 := (by omega); rcases h0 with rfl | rfl <;> rfl) | (intro i hi; have h0 : i = 0 ∨ i = 1 ∨ i = 2 := (by omega); rcases h0 with rfl | rfl | rfl <;> rfl)) ?_ | ((first | ((first | refine atF (f := 27) ?_ | refine atQ (f := 27) ?_); (first | (refine cV (hac := specIsGeneratorSet_ok n gs) (hK := ?_)) | (refine cQV (hac := specIsGeneratorSet_ok n gs) (hK := ?_))))); simp (maxSteps := 1000000) (dsimp := false) (implicitDefEqProofs := false) (disch := omega) only [wrap64, go_sem, hd]) | apply_assumption -exfalso -symm)
    all_goals (first | (show endQ _ _ _ _ _ _ _; (repeat (rename (∀ (A : Fr) (H : Hp), AWP _ _ _ _ A H → _) => hK; clear hK)); (repeat (rename (Fr → Hp → Prop) => K; clear K))) | (show Exists _; (repeat (rename (∀ (A : Fr) (H : Hp), AWP _ _ _ _ A H → _) => hK; clear hK)); (repeat (rename (Fr → Hp → Prop) => K; clear K))) | skip)
    exact end_retV rfl rfl
theorem implGroupOrder_ok (n : Int) (gs : List (List Int)) : AC Try.prog 111 [.v (.int .i64 (n)), intss gs] Hp.emp (fun _ => false) (retV (.v (.int .i64 (((goP n gs : Nat) : Int))))) := by
  by_cases hok : isGens n gs
  · obtain ⟨h1, h2, h3⟩ := gens_pm hok
    have e : n = ((n.toNat : Nat) : Int) := by omega
    have hd : decide (isGens n gs) = true := decide_eq_true hok
    have hn2 : n.toNat ≤ 20 := by omega
    have hnc := newChain_ok n.toNat gs (by omega) (gensP.of hok) hok.2.1
    rw [← e] at hnc
    refine ac_of_awp (N := ⟨_, fun _ => false, fun _ _ => rfl⟩) Try.func111 rfl (by kernel_rfl) Try.ntmps111 (by simp) ?_
    simp only [argsFr, List.zipIdx_cons, List.zipIdx_nil, go_sem]
    repeat' (first | refine awp_seqK fun K hK => ?_ | (refine awp_regionK 275 rfl ?_; simp only [List.map_cons, List.map_nil]; simp (maxSteps := 1000000) (dsimp := false) (implicitDefEqProofs := false) (disch := omega) only [wrap64, go_sem, hd]) | (refine awp_regionQK 275 (by kernel_rfl) (by kernel_rfl) (by kernel_rfl) ?_; simp only [List.map_cons, List.map_nil]; simp (maxSteps := 1000000) (dsimp := false) (implicitDefEqProofs := false) (disch := omega) only [wrap64, go_sem, hd]) | refine awp_block ?_ | (refine awp_skip ?_; simp only [go_sem, hd]) | (refine awp_exit ?_; simp only [go_sem, hd]) | (refine awp_ret ?_; try simp only [go_sem, hd]) | (refine awp_condP rfl ?_; try simp only [go_sem, hd]) | (refine BrP.mk (fun h => ?_) (fun h => ?_) <;> try simp (dsimp := false) (disch := omega) only [wrap64]) | (refine Br.mk (fun h => ?_) (fun h => ?_) <;> try simp (dsimp := false) (disch := omega) only [wrap64]) | refine Ob.mk (by first | omega | (intro _ _; rfl) | trivial | (intros; trivial) | assumption | (intro i hi; have h0 : i = 0 := (by omega); subst h0; first | rfl | trivial) | (intro i hi; have h0 : i = 0 ∨ i = 1 := (by omega); rcases h0 with rfl | rfl <;> rfl) | (intro i hi; have h0 : i = 0 ∨ i = 1 ∨ i = 2 := (by omega); rcases h0 with rfl | rfl | rfl <;> rfl)) ?_ | ((first | ((first | refine atF (f := 76) ?_ | refine atQ (f := 76) ?_); (first | (refine cV (hac := implIsGeneratorSet_ok n gs) (hK := ?_)) | (refine cQV (hac := implIsGeneratorSet_ok n gs) (hK := ?_)))) | ((first | refine atF (f := 74) ?_ | refine atQ (f := 74) ?_); refine callNew hnc (.inl rfl) hn2 rfl rfl (fun C hC => ?_)) | ((first | refine atF (f := 156) ?_ | refine atQ (f := 156) ?_); refine cV (hfit := .cons (fits_chI (le_add _ _) hn2 (fun _ => trivial)) (.cons (.refl _) .nil)) (hac := order_ok n.toNat C hn2 hC.1) (hK := ?_))); simp (maxSteps := 1000000) (dsimp := false) (implicitDefEqProofs := false) (disch := omega) only [wrap64, go_sem, hd]) | apply_assumption -exfalso -symm)
    all_goals (first | (show endQ _ _ _ _ _ _ _; (repeat (rename (∀ (A : Fr) (H : Hp), AWP _ _ _ _ A H → _) => hK; clear hK)); (repeat (rename (Fr → Hp → Prop) => K; clear K))) | (show Exists _; (repeat (rename (∀ (A : Fr) (H : Hp), AWP _ _ _ _ A H → _) => hK; clear hK)); (repeat (rename (Fr → Hp → Prop) => K; clear K))) | skip)
    exact end_retV' rfl rfl (by rw [show goP n gs = ordG n.toNat gs from if_pos hok, of_ord hC])
  · have hd : decide (isGens n gs) = false := decide_eq_false hok
    rw [show goP n gs = 0 from if_neg hok]
    refine ac_of_awp (N := ⟨_, fun _ => false, fun _ _ => rfl⟩) Try.func111 rfl (by kernel_rfl) Try.ntmps111 (by simp) ?_
    simp only [argsFr, List.zipIdx_cons, List.zipIdx_nil, go_sem]
    repeat' (first | refine awp_seqK fun K hK => ?_ | (refine awp_regionK 275 rfl ?_; simp only [List.map_cons, List.map_nil]; simp (maxSteps := 1000000) (dsimp := false) (implicitDefEqProofs := false) (disch := omega) only [wrap64, go_sem, hd]) | (refine awp_regionQK 275 (by kernel_rfl) (by kernel_rfl) (by kernel_rfl) ?_; simp only [List.map_cons, List.map_nil]; simp (maxSteps := 1000000) (dsimp := false) (implicitDefEqProofs := false) (disch := omega) only [wrap64, go_sem, hd]) | refine awp_block ?_ | (refine awp_skip ?_; simp only [go_sem, hd]) | (refine awp_exit ?_; simp only [go_sem, hd]) | (refine awp_ret ?_; try simp only [go_sem, hd]) | (refine awp_condP rfl ?_; try simp only [go_sem, hd]) | (refine BrP.mk (fun h => ?_) (fun h => ?_) <;> try simp (dsimp := false) (disch := omega) only [wrap64]) | (refine Br.mk (fun h => ?_) (fun h => ?_) <;> try simp (dsimp := false) (disch := omega) only [wrap64]) | refine Ob.mk (by first | omega | (intro _ _; rfl) | trivial | (intros; trivial) | assumption | (intro i hi; have h0 : i = 0 := (by omega); subst h0; first | rfl | trivial) | (intro i hi; have h0 : i = 0 ∨ i = 1 := (by omega); rcases h0 with rfl | rfl <;> rfl) | (intro i hi; have h0 : i = 0 ∨ i = 1 ∨ i = 2 := (by omega); rcases h0 with rfl | rfl | rfl <;> rfl)) ?_ | ((first | ((first | refine atF (f := 76) ?_ | refine atQ (f := 76) ?_); (first | (refine cV (hac := implIsGeneratorSet_ok n gs) (hK := ?_)) | (refine cQV (hac := implIsGeneratorSet_ok n gs) (hK := ?_))))); simp (maxSteps := 1000000) (dsimp := false) (implicitDefEqProofs := false) (disch := omega) only [wrap64, go_sem, hd]) | apply_assumption -exfalso -symm)
    all_goals (first | (show endQ _ _ _ _ _ _ _; (repeat (rename (∀ (A : Fr) (H : Hp), AWP _ _ _ _ A H → _) => hK; clear hK)); (repeat (rename (Fr → Hp → Prop) => K; clear K))) | (show Exists _; (repeat (rename (∀ (A : Fr) (H : Hp), AWP _ _ _ _ A H → _) => hK; clear hK)); (repeat (rename (Fr → Hp → Prop) => K; clear K))) | skip)
    exact end_retV rfl rfl
/-- The action of a generator on the first i blocks. -/
noncomputable def acR (n : Nat) (bs : List (List Int)) (g : List Int) (i : Nat) : List Int := (actP n bs g).take i
theorem acR_len (n : Nat) (bs : List (List Int)) (g : List Int) {i : Nat} (h : i ≤ bs.length) : (acR n bs g i).length = i := by
  unfold acR; rw [List.length_take, Go.Pm.actP_len]; omega
theorem acR_succ (n : Nat) (bs : List (List Int)) (g : List Int) {i : Nat} (h : i < bs.length) : acR n bs g (i + 1) = acR n bs g i ++ [(ixP n bs).getD (g.getD ((bs.getD i []).getD 0 0).toNat 0).toNat 0] := by
  have hl : i < (actP n bs g).length := by rw [Go.Pm.actP_len]; exact h
  have e := Go.Pm.actP_get (n := n) (g := g) h
  rw [List.getD_eq_getElem?_getD, List.getElem?_eq_getElem hl] at e
  unfold acR
  rw [List.take_add_one, List.getElem?_eq_getElem hl]
  simp only [Option.getD_some] at e
  rw [e]; rfl
theorem acR_all (n : Nat) (bs : List (List Int)) (g : List Int) : acR n bs g bs.length = actP n bs g := by
  unfold acR; rw [show bs.length = (actP n bs g).length from (Go.Pm.actP_len n bs g).symm, List.take_length]
theorem specBlockAction_ok (n : Int) (gs bs : List (List Int)) (hl : bs.length ≤ 1000000) (hb : ∀ j, (bs.getD j []).length ≤ 1000000) : AC Try.prog 46 [.v (.int .i64 (n)), intss gs, intss bs] Hp.emp (fun _ => false) (retV (.tup 2 (vecF [intss (baP n gs bs), .v (.bool (decide (isBS n gs bs)))]))) := by
  have hb := Hold.mk hb
  by_cases hbs : isBS n gs bs
  · have hdb : decide (isBS n gs bs) = true := decide_eq_true hbs
    obtain ⟨h1, h2, h3⟩ := gens_pm hbs.1
    have hgl := hbs.1.2.1
    have hp := Hold.mk hbs.2.1
    have hbl := hbs.2.1.len
    obtain ⟨m, em⟩ : ∃ m, m = n.toNat := ⟨_, rfl⟩
    have en : n = ((m : Nat) : Int) := by omega
    have hix := specBlockIndexes_ok m bs (by omega) (by rw [em]; exact hp.h) 22
    have hixl := Go.Pm.ixP_len (n := m) (bs := bs)
    rw [← em] at h1 hbl hp
    rw [← en] at hix
    have h1 := Hold.mk h1
    have hrow := Hold.mk (part_blk hp.h)
    have hf : ∀ k i, k < gs.length → i < bs.length → 0 < (bs.getD i []).length ∧ (0 ≤ (bs.getD i []).getD 0 0 ∧ (bs.getD i []).getD 0 0 < m) ∧ (gs.getD k []).length = m ∧ (0 ≤ (gs.getD k []).getD ((bs.getD i []).getD 0 0).toNat 0 ∧ (gs.getD k []).getD ((bs.getD i []).getD 0 0).toNat 0 < m) := fun k i hk hi => by
      have hg := h1.h _ (by rw [List.getD_eq_getElem?_getD, List.getElem?_eq_getElem hk]; exact List.getElem_mem hk : gs.getD k [] ∈ gs)
      have h0 := hp.h.pos hi
      obtain ⟨x, e, hx, _⟩ := hp.h.entry hi h0
      rw [e, Int.toNat_natCast]
      exact ⟨h0, by omega, hg.1, hg.2.1 x hx⟩
    have hf := Hold.mk hf
    rw [hdb, show baP n gs bs = acts m bs gs gs.length from ((if_pos hbs).trans (acts_all _ _ _).symm).trans (by rw [em])]
    refine ac_of_awp (N := ⟨_, fun _ => false, fun _ _ => rfl⟩) Try.func46 rfl (by kernel_rfl) Try.ntmps46 (by simp) ?_
    simp only [argsFr, List.zipIdx_cons, List.zipIdx_nil, go_sem]
    repeat' (first | refine awp_seqK fun K hK => ?_ | (refine awp_regionK 8657313735 rfl ?_; simp only [List.map_cons, List.map_nil]; simp (maxSteps := 1000000) (dsimp := false) (implicitDefEqProofs := false) (disch := omega) only [wrap64, go_sem, hdb]) | (refine awp_regionQK 8657313735 (by kernel_rfl) (by kernel_rfl) (by kernel_rfl) ?_; simp only [List.map_cons, List.map_nil]; simp (maxSteps := 1000000) (dsimp := false) (implicitDefEqProofs := false) (disch := omega) only [wrap64, go_sem, hdb]) | refine awp_block ?_ | (refine awp_skip ?_; simp only [go_sem, hdb]) | (refine awp_exit ?_; simp only [go_sem, hdb]) | (refine awp_ret ?_; try simp only [go_sem, hdb]) | (refine awp_condP rfl ?_; try simp only [go_sem, hdb]) | (refine BrP.mk (fun h => ?_) (fun h => ?_) <;> try simp (dsimp := false) (disch := omega) only [wrap64]) | (refine Br.mk (fun h => ?_) (fun h => ?_) <;> try simp (dsimp := false) (disch := omega) only [wrap64]) | refine Ob.mk (by first | omega | (intro _ _; rfl) | trivial | (intros; trivial) | assumption | (intro i hi; have h0 : i = 0 := (by omega); subst h0; first | rfl | trivial) | (intro i hi; have h0 : i = 0 ∨ i = 1 := (by omega); rcases h0 with rfl | rfl <;> rfl) | (intro i hi; have h0 : i = 0 ∨ i = 1 ∨ i = 2 := (by omega); rcases h0 with rfl | rfl | rfl <;> rfl)) ?_ | ((first | ((first | refine atF (f := 32) ?_ | refine atQ (f := 32) ?_); (first | (refine cV (hac := specIsBlockSystem_ok n gs bs hl hb.h) (hK := ?_)) | (refine cQV (hac := specIsBlockSystem_ok n gs bs hl hb.h) (hK := ?_)))) | (refine cFI (hac := hix) (hK := ?_)) | (refine cQI (hac := hix) (hK := ?_))); simp (maxSteps := 1000000) (dsimp := false) (implicitDefEqProofs := false) (disch := omega) only [wrap64, go_sem, hdb]) | apply_assumption -exfalso -symm)
    all_goals (first | (show endQ _ _ _ _ _ _ _; (repeat (rename (∀ (A : Fr) (H : Hp), AWP _ _ _ _ A H → _) => hK; clear hK)); (repeat (rename (Fr → Hp → Prop) => K; clear K))) | (show Exists _; (repeat (rename (∀ (A : Fr) (H : Hp), AWP _ _ _ _ A H → _) => hK; clear hK)); (repeat (rename (Fr → Hp → Prop) => K; clear K))) | skip)
    refine awp_loop (ι := Nat) (fun k => [(10, .v (.int .i64 ((k : Nat)))), (9, .list false 1 (ixP m bs).length (cM iv 0 (ixP m bs))), (8, .own 13 0 1 k), (1, .list false 1 (gs).length (cM ints [] (gs))), (2, .list false 1 (bs).length (cM ints [] (bs)))]) (fun k => Hp.emp.upd 13 (.cells k (cM ints [] (acts m bs gs k)))) (fun k => k ≤ gs.length) (fun k => gs.length - k) 0 (Nat.zero_le _) ?_ ?_
    · exact Sub.toFF (fun _ => False) (Fr.fit_cons rfl (.refl _) (Fr.fit_cons rfl (.refl _) (Fr.fit_cons rfl (.refl _) (Fr.fit_cons rfl (.refl _) (Fr.fit_cons rfl (.refl _) (Fr.fit_nil _)))))) (leF_upd rfl (bfE rfl (fun i hi => absurd hi (Nat.not_lt_zero _))) leF_emp id)
    intro k hk
    have hal := acts_len m bs gs k hk
    repeat' (first | refine awp_seqK fun K hK => ?_ | (refine awp_regionK 8657313735 rfl ?_; simp only [List.map_cons, List.map_nil]; simp (maxSteps := 1000000) (dsimp := false) (implicitDefEqProofs := false) (disch := omega) only [wrap64, go_sem]) | (refine awp_regionQK 8657313735 (by kernel_rfl) (by kernel_rfl) (by kernel_rfl) ?_; simp only [List.map_cons, List.map_nil]; simp (maxSteps := 1000000) (dsimp := false) (implicitDefEqProofs := false) (disch := omega) only [wrap64, go_sem]) | refine awp_block ?_ | (refine awp_skip ?_; simp only [go_sem]) | (refine awp_exit ?_; simp only [go_sem]) | (refine awp_ret ?_; try simp only [go_sem]) | (refine awp_condP rfl ?_; try simp only [go_sem]) | (refine BrP.mk (fun h => ?_) (fun h => ?_) <;> try simp (dsimp := false) (disch := omega) only [wrap64]) | (refine Br.mk (fun h => ?_) (fun h => ?_) <;> try simp (dsimp := false) (disch := omega) only [wrap64]) | refine Ob.mk (by first | omega | (intro _ _; rfl) | trivial | (intros; trivial) | assumption | (intro i hi; have h0 : i = 0 := (by omega); subst h0; first | rfl | trivial) | (intro i hi; have h0 : i = 0 ∨ i = 1 := (by omega); rcases h0 with rfl | rfl <;> rfl) | (intro i hi; have h0 : i = 0 ∨ i = 1 ∨ i = 2 := (by omega); rcases h0 with rfl | rfl | rfl <;> rfl)) ?_ | apply_assumption -exfalso -symm)
    all_goals (first | (show endQ _ _ _ _ _ _ _; (repeat (rename (∀ (A : Fr) (H : Hp), AWP _ _ _ _ A H → _) => hK; clear hK)); (repeat (rename (Fr → Hp → Prop) => K; clear K))) | (show Exists _; (repeat (rename (∀ (A : Fr) (H : Hp), AWP _ _ _ _ A H → _) => hK; clear hK)); (repeat (rename (Fr → Hp → Prop) => K; clear K))) | skip)
    · refine awp_loop (ι := Nat) (fun i => [(12, .v (.int .i64 ((i : Nat)))), (11, .own 29 0 1 (acR m bs (gs.getD k []) i).length), (10, .v (.int .i64 ((k : Nat)))), (9, .list false 1 (ixP m bs).length (cM iv 0 (ixP m bs))), (8, .own 13 0 1 k), (1, .list false 1 (gs).length (cM ints [] (gs))), (2, .list false 1 (bs).length (cM ints [] (bs)))]) (fun i => (Hp.emp.upd 13 (.cells k (cM ints [] (acts m bs gs k)))).upd 29 (.cells (acR m bs (gs.getD k []) i).length (cM iv 0 (acR m bs (gs.getD k []) i)))) (fun i => i ≤ bs.length) (fun i => bs.length - i) 0 (Nat.zero_le _) ?_ ?_
      · exact Sub.toL (by simp only [go_sem] <;> first | trivial | (simp only [Option.some.injEq, AV.v.injEq, AV.own.injEq, AV.list.injEq, Value.int.injEq, Value.bool.injEq, true_and, and_true]; first | omega | (simp; done)) | (simp; done) | (simp; omega)) (Hp.le_refl _)
      intro i hi
      have hrl := acR_len m bs (gs.getD k []) hi
      have hff : i < bs.length → 0 < (bs.getD i []).length ∧ (0 ≤ (bs.getD i []).getD (Int.toNat 0) 0 ∧ (bs.getD i []).getD (Int.toNat 0) 0 < m) ∧ (gs.getD k []).length = m ∧ (0 ≤ (gs.getD k []).getD ((bs.getD i []).getD (Int.toNat 0) 0).toNat 0 ∧ (gs.getD k []).getD ((bs.getD i []).getD (Int.toNat 0) 0).toNat 0 < m) := fun h => hf.h k i (by omega) h
      have hrs := fun h => acR_succ m bs (gs.getD k []) (i := i) h
      have hri := hrow.h i
      repeat' (first | (refine awp_regionEK (id := 12) 8657313735 17 (by kernel_rfl) (by kernel_rfl) (by kernel_rfl) ?_; simp only [List.map_cons, List.map_nil, opsE, List.take_succ_cons, List.take_zero, List.drop_succ_cons, List.drop_zero]; simp (maxSteps := 1000000) (dsimp := false) (implicitDefEqProofs := false) (disch := omega) only [wrap64, go_sem]) | refine awp_seqK fun K hK => ?_ | (refine awp_regionK 8657313735 rfl ?_; simp only [List.map_cons, List.map_nil]; simp (maxSteps := 1000000) (dsimp := false) (implicitDefEqProofs := false) (disch := omega) only [wrap64, go_sem]) | (refine awp_regionQK 8657313735 (by kernel_rfl) (by kernel_rfl) (by kernel_rfl) ?_; simp only [List.map_cons, List.map_nil]; simp (maxSteps := 1000000) (dsimp := false) (implicitDefEqProofs := false) (disch := omega) only [wrap64, go_sem]) | refine awp_block ?_ | (refine awp_skip ?_; simp only [go_sem]) | (refine awp_exit ?_; simp only [go_sem]) | (refine awp_ret ?_; try simp only [go_sem]) | (refine awp_condP rfl ?_; try simp only [go_sem]) | (refine BrP.mk (fun h => ?_) (fun h => ?_) <;> try simp (dsimp := false) (disch := omega) only [wrap64]) | (refine Br.mk (fun h => ?_) (fun h => ?_) <;> try simp (dsimp := false) (disch := omega) only [wrap64]) | refine Ob.mk (by first | omega | (intro _ _; rfl) | trivial | (intros; trivial) | assumption | (intro i hi; have h0 : i = 0 := (by omega); subst h0; first | rfl | trivial) | (intro i hi; have h0 : i = 0 ∨ i = 1 := (by omega); rcases h0 with rfl | rfl <;> rfl) | (intro i hi; have h0 : i = 0 ∨ i = 1 ∨ i = 2 := (by omega); rcases h0 with rfl | rfl | rfl <;> rfl)) ?_ | apply_assumption -exfalso -symm)
      all_goals (first | (show endQ _ _ _ _ _ _ _; (repeat (rename (∀ (A : Fr) (H : Hp), AWP _ _ _ _ A H → _) => hK; clear hK)); (repeat (rename (Fr → Hp → Prop) => K; clear K))) | (show Exists _; (repeat (rename (∀ (A : Fr) (H : Hp), AWP _ _ _ _ A H → _) => hK; clear hK)); (repeat (rename (Fr → Hp → Prop) => K; clear K))) | skip)
      · have e4 := hrs (by omega)
        have e5 : (acR m bs (gs.getD k []) (i + 1)).length = (acR m bs (gs.getD k []) i).length + 1 := by rw [e4, List.length_append, List.length_singleton]
        refine ⟨i + 1, by omega, by omega, ?_⟩
        rw [e5, e4]
        exact Sub.toL (by simp only [go_sem] <;> first | trivial | (simp only [Option.some.injEq, AV.v.injEq, AV.own.injEq, AV.list.injEq, Value.int.injEq, Value.bool.injEq, true_and, and_true]; first | omega | (simp; done)) | (simp; done) | (simp; omega)) (by (repeat' (first | exact Hp.le_emp _ | exact Hp.le_refl _ | refine Hp.le_upd ?_ ?_)); all_goals (first | rfl | (simp only [go_sem]; first | rfl | (refine cellsE ?_ ?_ <;> (simp)) | (simp))))
      · have ei : i = bs.length := by omega
        refine ⟨k + 1, by omega, by omega, ?_⟩
        refine Sub.toFF (fun h => h = 29) (Fr.fit_cons rfl (.refl _) (Fr.fit_cons rfl (.refl _) (Fr.fit_cons rfl (.refl _) (Fr.fit_cons rfl (.refl _) (Fr.fit_cons rfl (.refl _) (Fr.fit_nil _)))))) (leF_upd rfl ⟨rfl, fun j hj => ?_⟩ leF_emp (by decide))
        rw [acts_succ m bs gs k (by omega)]
        have := ap_ints (acts m bs gs k) (actP m bs (gs.getD k [])) j (by omega)
        rw [hal] at this
        by_cases hjk : j < k
        · rw [← this]
          simp only [apF, if_pos hjk]
          exact .refl _
        · have e : j = k := by omega
          subst e
          rw [← this]
          simp only [apF, Nat.lt_irrefl, if_false, Nat.sub_self, setF, if_true]
          rw [← acR_all, ← ei]
          exact fits_I rfl rfl rfl rfl
    · have e : k = gs.length := by omega
      subst e
      refine end_T2 rfl (by decide) rfl rfl ?_ (.refl _)
      exact fits_II rfl trivial rfl hal.symm
  · have hdb : decide (isBS n gs bs) = false := decide_eq_false hbs
    rw [hdb, show baP n gs bs = [] from if_neg hbs]
    refine ac_of_awp (N := ⟨_, fun _ => false, fun _ _ => rfl⟩) Try.func46 rfl (by kernel_rfl) Try.ntmps46 (by simp) ?_
    simp only [argsFr, List.zipIdx_cons, List.zipIdx_nil, go_sem]
    repeat' (first | refine awp_seqK fun K hK => ?_ | (refine awp_regionK 8657313735 rfl ?_; simp only [List.map_cons, List.map_nil]; simp (maxSteps := 1000000) (dsimp := false) (implicitDefEqProofs := false) (disch := omega) only [wrap64, go_sem, hdb]) | (refine awp_regionQK 8657313735 (by kernel_rfl) (by kernel_rfl) (by kernel_rfl) ?_; simp only [List.map_cons, List.map_nil]; simp (maxSteps := 1000000) (dsimp := false) (implicitDefEqProofs := false) (disch := omega) only [wrap64, go_sem, hdb]) | refine awp_block ?_ | (refine awp_skip ?_; simp only [go_sem, hdb]) | (refine awp_exit ?_; simp only [go_sem, hdb]) | (refine awp_ret ?_; try simp only [go_sem, hdb]) | (refine awp_condP rfl ?_; try simp only [go_sem, hdb]) | (refine BrP.mk (fun h => ?_) (fun h => ?_) <;> try simp (dsimp := false) (disch := omega) only [wrap64]) | (refine Br.mk (fun h => ?_) (fun h => ?_) <;> try simp (dsimp := false) (disch := omega) only [wrap64]) | refine Ob.mk (by first | omega | (intro _ _; rfl) | trivial | (intros; trivial) | assumption | (intro i hi; have h0 : i = 0 := (by omega); subst h0; first | rfl | trivial) | (intro i hi; have h0 : i = 0 ∨ i = 1 := (by omega); rcases h0 with rfl | rfl <;> rfl) | (intro i hi; have h0 : i = 0 ∨ i = 1 ∨ i = 2 := (by omega); rcases h0 with rfl | rfl | rfl <;> rfl)) ?_ | ((first | ((first | refine atF (f := 32) ?_ | refine atQ (f := 32) ?_); (first | (refine cV (hac := specIsBlockSystem_ok n gs bs hl hb.h) (hK := ?_)) | (refine cQV (hac := specIsBlockSystem_ok n gs bs hl hb.h) (hK := ?_))))); simp (maxSteps := 1000000) (dsimp := false) (implicitDefEqProofs := false) (disch := omega) only [wrap64, go_sem, hdb]) | apply_assumption -exfalso -symm)
    all_goals (first | (show endQ _ _ _ _ _ _ _; (repeat (rename (∀ (A : Fr) (H : Hp), AWP _ _ _ _ A H → _) => hK; clear hK)); (repeat (rename (Fr → Hp → Prop) => K; clear K))) | (show Exists _; (repeat (rename (∀ (A : Fr) (H : Hp), AWP _ _ _ _ A H → _) => hK; clear hK)); (repeat (rename (Fr → Hp → Prop) => K; clear K))) | skip)
    exact end_T2 rfl (by decide) rfl rfl (fits_II0 rfl trivial) (.refl _)
/-- A system's blocks: few, short. -/
theorem bs_isGens {n : Int} {gs bs : List (List Int)} (h : isBS n gs bs) : isGens (bs.length : Int) (gs.map (actP n.toNat bs)) := by
  obtain ⟨h1, h2, h3⟩ := gens_pm h.1
  have hl := h.2.1.len
  have h0 : 0 < bs.length := by
    obtain ⟨b, hb, _⟩ := h.2.1.all 0 (by omega)
    exact List.length_pos_of_mem hb
  refine ⟨by omega, by rw [List.length_map]; exact h.1.2.1, fun k hk => ?_⟩
  rw [List.length_map] at hk
  have e : (gs.map (actP n.toNat bs)).getD k [] = actP n.toNat bs (gs.getD k []) := by simp [List.getD_eq_getElem?_getD, hk]
  have hm : gs.getD k [] ∈ gs := by rw [List.getD_eq_getElem?_getD, List.getElem?_eq_getElem hk]; exact List.getElem_mem hk
  have hp := Go.Pm.actP_pm h.2.1 (h1 _ hm) (h.2.2 k hk)
  rw [e]
  exact ⟨by rw [hp.1], (isPerm_pm _).2 ⟨by rw [hp.1]; omega, by rw [hp.1]; exact hp⟩⟩
/-- The order of the action on blocks; 0 where there is none. -/
noncomputable def baoP (n : Int) (gs bs : List (List Int)) : Nat := if isBS n gs bs then goP bs.length (baP n gs bs) else 0
theorem baoP_dvd {n : Int} {gs bs : List (List Int)} (h : isBS n gs bs) : baoP n gs bs ∣ goP n gs := by
  obtain ⟨h1, h2, h3⟩ := gens_pm h.1
  have hg := bs_isGens h
  unfold baoP
  rw [if_pos h, show baP n gs bs = gs.map (actP n.toNat bs) from if_pos h]
  rw [show goP n gs = ordG n.toNat gs from if_pos h.1, show goP bs.length (gs.map (actP n.toNat bs)) = ordG bs.length (gs.map (actP n.toNat bs)) from if_pos hg]
  refine Go.Pm.ordG_act h.2.1 fun g hgm => ⟨h1 g hgm, ?_⟩
  obtain ⟨k, hk, rfl⟩ := List.getElem_of_mem hgm
  have := h.2.2 k hk
  rwa [List.getD_eq_getElem?_getD, List.getElem?_eq_getElem hk] at this
theorem baoP_pos {n : Int} {gs bs : List (List Int)} (h : isBS n gs bs) : 1 ≤ baoP n gs bs := by
  unfold baoP
  rw [if_pos h, show baP n gs bs = gs.map (actP n.toNat bs) from if_pos h]
  exact goP_pos (bs_isGens h)
theorem implBlockActionOrder_ok (n : Int) (gs bs : List (List Int)) (hl : bs.length ≤ 1000000) (hb : ∀ j, (bs.getD j []).length ≤ 1000000) : AC Try.prog 47 [.v (.int .i64 (n)), intss gs, intss bs] Hp.emp (fun _ => false) (retV (.v (.int .i64 (((baoP n gs bs : Nat) : Int))))) := by
  by_cases hbs : isBS n gs bs
  · have hdb : decide (isBS n gs bs) = true := decide_eq_true hbs
    rw [show baoP n gs bs = goP bs.length (baP n gs bs) from if_pos hbs]
    refine ac_of_awp (N := ⟨_, fun _ => false, fun _ _ => rfl⟩) Try.func47 rfl (by kernel_rfl) Try.ntmps47 (by simp) ?_
    simp only [argsFr, List.zipIdx_cons, List.zipIdx_nil, go_sem]
    repeat' (first | refine awp_seqK fun K hK => ?_ | (refine awp_regionK 131527 rfl ?_; simp only [List.map_cons, List.map_nil]; simp (maxSteps := 1000000) (dsimp := false) (implicitDefEqProofs := false) (disch := omega) only [wrap64, go_sem, hdb]) | (refine awp_regionQK 131527 (by kernel_rfl) (by kernel_rfl) (by kernel_rfl) ?_; simp only [List.map_cons, List.map_nil]; simp (maxSteps := 1000000) (dsimp := false) (implicitDefEqProofs := false) (disch := omega) only [wrap64, go_sem, hdb]) | refine awp_block ?_ | (refine awp_skip ?_; simp only [go_sem, hdb]) | (refine awp_exit ?_; simp only [go_sem, hdb]) | (refine awp_ret ?_; try simp only [go_sem, hdb]) | (refine awp_condP rfl ?_; try simp only [go_sem, hdb]) | (refine BrP.mk (fun h => ?_) (fun h => ?_) <;> try simp (dsimp := false) (disch := omega) only [wrap64]) | (refine Br.mk (fun h => ?_) (fun h => ?_) <;> try simp (dsimp := false) (disch := omega) only [wrap64]) | refine Ob.mk (by first | omega | (intro _ _; rfl) | trivial | (intros; trivial) | assumption | (intro i hi; have h0 : i = 0 := (by omega); subst h0; first | rfl | trivial) | (intro i hi; have h0 : i = 0 ∨ i = 1 := (by omega); rcases h0 with rfl | rfl <;> rfl) | (intro i hi; have h0 : i = 0 ∨ i = 1 ∨ i = 2 := (by omega); rcases h0 with rfl | rfl | rfl <;> rfl)) ?_ | ((first | ((first | refine atF (f := 45) ?_ | refine atQ (f := 45) ?_); (refine cR (hac := implBlockAction_ok n gs bs hl hb) (hK := ?_) (hs := baT_scrub _ _ _))) | ((first | refine atF (f := 112) ?_ | refine atQ (f := 112) ?_); (first | (refine cV (hac := lengthII_ok bs) (hK := ?_)) | (refine cQV (hac := lengthII_ok bs) (hK := ?_)))) | ((first | refine atF (f := 111) ?_ | refine atQ (f := 111) ?_); (first | (refine cV (hac := implGroupOrder_ok (bs.length : Int) (baP n gs bs)) (hK := ?_)) | (refine cQV (hac := implGroupOrder_ok (bs.length : Int) (baP n gs bs)) (hK := ?_))))); simp (maxSteps := 1000000) (dsimp := false) (implicitDefEqProofs := false) (disch := omega) only [wrap64, go_sem, hdb]) | apply_assumption -exfalso -symm)
    all_goals (first | (show endQ _ _ _ _ _ _ _; (repeat (rename (∀ (A : Fr) (H : Hp), AWP _ _ _ _ A H → _) => hK; clear hK)); (repeat (rename (Fr → Hp → Prop) => K; clear K))) | (show Exists _; (repeat (rename (∀ (A : Fr) (H : Hp), AWP _ _ _ _ A H → _) => hK; clear hK)); (repeat (rename (Fr → Hp → Prop) => K; clear K))) | skip)
    exact end_retV rfl rfl
  · have hdb : decide (isBS n gs bs) = false := decide_eq_false hbs
    rw [show baoP n gs bs = 0 from if_neg hbs]
    refine ac_of_awp (N := ⟨_, fun _ => false, fun _ _ => rfl⟩) Try.func47 rfl (by kernel_rfl) Try.ntmps47 (by simp) ?_
    simp only [argsFr, List.zipIdx_cons, List.zipIdx_nil, go_sem]
    repeat' (first | refine awp_seqK fun K hK => ?_ | (refine awp_regionK 131527 rfl ?_; simp only [List.map_cons, List.map_nil]; simp (maxSteps := 1000000) (dsimp := false) (implicitDefEqProofs := false) (disch := omega) only [wrap64, go_sem, hdb]) | (refine awp_regionQK 131527 (by kernel_rfl) (by kernel_rfl) (by kernel_rfl) ?_; simp only [List.map_cons, List.map_nil]; simp (maxSteps := 1000000) (dsimp := false) (implicitDefEqProofs := false) (disch := omega) only [wrap64, go_sem, hdb]) | refine awp_block ?_ | (refine awp_skip ?_; simp only [go_sem, hdb]) | (refine awp_exit ?_; simp only [go_sem, hdb]) | (refine awp_ret ?_; try simp only [go_sem, hdb]) | (refine awp_condP rfl ?_; try simp only [go_sem, hdb]) | (refine BrP.mk (fun h => ?_) (fun h => ?_) <;> try simp (dsimp := false) (disch := omega) only [wrap64]) | (refine Br.mk (fun h => ?_) (fun h => ?_) <;> try simp (dsimp := false) (disch := omega) only [wrap64]) | refine Ob.mk (by first | omega | (intro _ _; rfl) | trivial | (intros; trivial) | assumption | (intro i hi; have h0 : i = 0 := (by omega); subst h0; first | rfl | trivial) | (intro i hi; have h0 : i = 0 ∨ i = 1 := (by omega); rcases h0 with rfl | rfl <;> rfl) | (intro i hi; have h0 : i = 0 ∨ i = 1 ∨ i = 2 := (by omega); rcases h0 with rfl | rfl | rfl <;> rfl)) ?_ | ((first | ((first | refine atF (f := 45) ?_ | refine atQ (f := 45) ?_); (refine cR (hac := implBlockAction_ok n gs bs hl hb) (hK := ?_) (hs := baT_scrub _ _ _)))); simp (maxSteps := 1000000) (dsimp := false) (implicitDefEqProofs := false) (disch := omega) only [wrap64, go_sem, hdb]) | apply_assumption -exfalso -symm)
    all_goals (first | (show endQ _ _ _ _ _ _ _; (repeat (rename (∀ (A : Fr) (H : Hp), AWP _ _ _ _ A H → _) => hK; clear hK)); (repeat (rename (Fr → Hp → Prop) => K; clear K))) | (show Exists _; (repeat (rename (∀ (A : Fr) (H : Hp), AWP _ _ _ _ A H → _) => hK; clear hK)); (repeat (rename (Fr → Hp → Prop) => K; clear K))) | skip)
    exact end_retV rfl rfl
/-- The order of the kernel. -/
noncomputable def bkoP (n : Int) (gs bs : List (List Int)) : Nat := goP n gs / baoP n gs bs
theorem implBlockKernelOrder_ok (n : Int) (gs bs : List (List Int)) (hl : bs.length ≤ 1000000) (hb : ∀ j, (bs.getD j []).length ≤ 1000000) : AC Try.prog 48 [.v (.int .i64 (n)), intss gs, intss bs] Hp.emp (fun _ => false) (retV (.v (.int .i64 (((bkoP n gs bs : Nat) : Int))))) := by
  have hle := goP_le n gs
  by_cases hbs : isBS n gs bs
  · have hp := baoP_pos hbs
    refine ac_of_awp (N := ⟨_, fun _ => false, fun _ _ => rfl⟩) Try.func48 rfl (by kernel_rfl) Try.ntmps48 (by simp) ?_
    simp only [argsFr, List.zipIdx_cons, List.zipIdx_nil, go_sem]
    repeat' (first | refine awp_seqK fun K hK => ?_ | (refine awp_regionK 8391 rfl ?_; simp only [List.map_cons, List.map_nil]; simp (maxSteps := 1000000) (dsimp := false) (implicitDefEqProofs := false) (disch := omega) only [wrap64, go_sem]) | (refine awp_regionQK 8391 (by kernel_rfl) (by kernel_rfl) (by kernel_rfl) ?_; simp only [List.map_cons, List.map_nil]; simp (maxSteps := 1000000) (dsimp := false) (implicitDefEqProofs := false) (disch := omega) only [wrap64, go_sem]) | refine awp_block ?_ | (refine awp_skip ?_; simp only [go_sem]) | (refine awp_exit ?_; simp only [go_sem]) | (refine awp_ret ?_; try simp only [go_sem]) | (refine awp_condP rfl ?_; try simp only [go_sem]) | (refine BrP.mk (fun h => ?_) (fun h => ?_) <;> try simp (dsimp := false) (disch := omega) only [wrap64]) | (refine Br.mk (fun h => ?_) (fun h => ?_) <;> try simp (dsimp := false) (disch := omega) only [wrap64]) | refine Ob.mk (by first | omega | (intro _ _; rfl) | trivial | (intros; trivial) | assumption | (intro i hi; have h0 : i = 0 := (by omega); subst h0; first | rfl | trivial) | (intro i hi; have h0 : i = 0 ∨ i = 1 := (by omega); rcases h0 with rfl | rfl <;> rfl) | (intro i hi; have h0 : i = 0 ∨ i = 1 ∨ i = 2 := (by omega); rcases h0 with rfl | rfl | rfl <;> rfl)) ?_ | ((first | ((first | refine atF (f := 47) ?_ | refine atQ (f := 47) ?_); (first | (refine cV (hac := implBlockActionOrder_ok n gs bs hl hb) (hK := ?_)) | (refine cQV (hac := implBlockActionOrder_ok n gs bs hl hb) (hK := ?_)))) | ((first | refine atF (f := 111) ?_ | refine atQ (f := 111) ?_); (first | (refine cV (hac := implGroupOrder_ok n gs) (hK := ?_)) | (refine cQV (hac := implGroupOrder_ok n gs) (hK := ?_))))); simp (maxSteps := 1000000) (dsimp := false) (implicitDefEqProofs := false) (disch := omega) only [wrap64, go_sem]) | apply_assumption -exfalso -symm)
    all_goals (first | (show endQ _ _ _ _ _ _ _; (repeat (rename (∀ (A : Fr) (H : Hp), AWP _ _ _ _ A H → _) => hK; clear hK)); (repeat (rename (Fr → Hp → Prop) => K; clear K))) | (show Exists _; (repeat (rename (∀ (A : Fr) (H : Hp), AWP _ _ _ _ A H → _) => hK; clear hK)); (repeat (rename (Fr → Hp → Prop) => K; clear K))) | skip)
    · omega
    · refine end_retV' rfl rfl ?_
      have h9 : bkoP n gs bs ≤ goP n gs := Nat.div_le_self _ _
      rw [← Int.ofNat_tdiv, show goP n gs / baoP n gs bs = bkoP n gs bs from rfl, wrap64 (by omega)]
  · have h0 : baoP n gs bs = 0 := if_neg hbs
    refine ac_of_awp (N := ⟨_, fun _ => false, fun _ _ => rfl⟩) Try.func48 rfl (by kernel_rfl) Try.ntmps48 (by simp) ?_
    simp only [argsFr, List.zipIdx_cons, List.zipIdx_nil, go_sem]
    repeat' (first | refine awp_seqK fun K hK => ?_ | (refine awp_regionK 8391 rfl ?_; simp only [List.map_cons, List.map_nil]; simp (maxSteps := 1000000) (dsimp := false) (implicitDefEqProofs := false) (disch := omega) only [wrap64, go_sem, h0]) | (refine awp_regionQK 8391 (by kernel_rfl) (by kernel_rfl) (by kernel_rfl) ?_; simp only [List.map_cons, List.map_nil]; simp (maxSteps := 1000000) (dsimp := false) (implicitDefEqProofs := false) (disch := omega) only [wrap64, go_sem, h0]) | refine awp_block ?_ | (refine awp_skip ?_; simp only [go_sem, h0]) | (refine awp_exit ?_; simp only [go_sem, h0]) | (refine awp_ret ?_; try simp only [go_sem, h0]) | (refine awp_condP rfl ?_; try simp only [go_sem, h0]) | (refine BrP.mk (fun h => ?_) (fun h => ?_) <;> try simp (dsimp := false) (disch := omega) only [wrap64]) | (refine Br.mk (fun h => ?_) (fun h => ?_) <;> try simp (dsimp := false) (disch := omega) only [wrap64]) | refine Ob.mk (by first | omega | (intro _ _; rfl) | trivial | (intros; trivial) | assumption | (intro i hi; have h0 : i = 0 := (by omega); subst h0; first | rfl | trivial) | (intro i hi; have h0 : i = 0 ∨ i = 1 := (by omega); rcases h0 with rfl | rfl <;> rfl) | (intro i hi; have h0 : i = 0 ∨ i = 1 ∨ i = 2 := (by omega); rcases h0 with rfl | rfl | rfl <;> rfl)) ?_ | ((first | ((first | refine atF (f := 47) ?_ | refine atQ (f := 47) ?_); (first | (refine cV (hac := implBlockActionOrder_ok n gs bs hl hb) (hK := ?_)) | (refine cQV (hac := implBlockActionOrder_ok n gs bs hl hb) (hK := ?_))))); simp (maxSteps := 1000000) (dsimp := false) (implicitDefEqProofs := false) (disch := omega) only [wrap64, go_sem, h0]) | apply_assumption -exfalso -symm)
    all_goals (first | (show endQ _ _ _ _ _ _ _; (repeat (rename (∀ (A : Fr) (H : Hp), AWP _ _ _ _ A H → _) => hK; clear hK)); (repeat (rename (Fr → Hp → Prop) => K; clear K))) | (show Exists _; (repeat (rename (∀ (A : Fr) (H : Hp), AWP _ _ _ _ A H → _) => hK; clear hK)); (repeat (rename (Fr → Hp → Prop) => K; clear K))) | skip)
    · exact end_retV' rfl rfl (by unfold bkoP; rw [h0, Nat.div_zero]; rfl)
    · omega
end Go.Proofs.Ytngpacdhpblpbaa
end
