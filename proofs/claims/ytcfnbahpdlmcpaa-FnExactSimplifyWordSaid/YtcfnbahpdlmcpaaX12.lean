import Derived.Test.YtcfnbahpdlmcpaaX5
import Derived.Test.YtcfnbahpdlmcpaaX3
import Derived.Test.YtcfnbahpdlmcpaaX11
/- Cycles and orders of permutations, both texts. -/
section
namespace Go.Proofs.Ytcfnbahpdlmcpaa
open Go.Av
set_option linter.unusedSimpArgs false
set_option linter.unusedVariables false
attribute [local irreducible] AWP CallG Ob Br BrP Go.Av.Sub endQ AOps OpV AC thenA blkA opsVC opVC withA withArgs opsQ opQ CallQ withA2 withArgs2
open Go.Pm (Pm comp invp idn img itr clen cyc isMn cycs lcmL ord)
theorem tmod_nat (x y : Nat) : (x : Int).tmod y = ((x % y : Nat) : Int) := (Int.ofNat_tmod x y).symm
theorem tdiv_nat (x y : Nat) : (x : Int).tdiv y = ((x / y : Nat) : Int) := (Int.ofNat_tdiv x y).symm
theorem gcd_step (x y : Nat) : Nat.gcd x y = Nat.gcd y (x % y) := by rw [Nat.gcd_comm, Nat.gcd_rec, Nat.gcd_comm]
theorem implGcd_ok (a b : Nat) (ha : a ≤ 1000000000 ∧ b ≤ 1000000000) : AC Try.prog 290 [.v (.int .i64 ((a : Nat))), .v (.int .i64 ((b : Nat)))] Hp.emp (fun _ => false) (retV (.v (.int .i64 ((Nat.gcd a b : Nat))))) := by
  refine ac_of_awp (N := ⟨_, fun _ => false, fun _ _ => rfl⟩) Try.func290 rfl (by kernel_rfl) Try.ntmps290 (by simp) ?_
  simp only [argsFr, List.zipIdx_cons, List.zipIdx_nil, go_sem]
  repeat' (first | refine awp_seqK fun K hK => ?_ | (refine awp_regionK 83 rfl ?_; simp only [List.map_cons, List.map_nil]; simp (maxSteps := 1000000) (dsimp := false) (implicitDefEqProofs := false) (disch := omega) only [wrap64, go_sem]) | (refine awp_regionQK 83 (by kernel_rfl) (by kernel_rfl) (by kernel_rfl) ?_; simp only [List.map_cons, List.map_nil]; simp (maxSteps := 1000000) (dsimp := false) (implicitDefEqProofs := false) (disch := omega) only [wrap64, go_sem]) | refine awp_block ?_ | (refine awp_skip ?_; simp only [go_sem]) | (refine awp_exit ?_; simp only [go_sem]) | (refine awp_ret ?_; try simp only [go_sem]) | (refine awp_condP rfl ?_; try simp only [go_sem]) | (refine BrP.mk (fun h => ?_) (fun h => ?_) <;> try simp (dsimp := false) (disch := omega) only [wrap64]) | (refine Br.mk (fun h => ?_) (fun h => ?_) <;> try simp (dsimp := false) (disch := omega) only [wrap64]) | refine Ob.mk (by first | omega | (intro _ _; rfl) | trivial | (intros; trivial) | assumption | (intro i hi; have h0 : i = 0 := (by omega); subst h0; first | rfl | trivial) | (intro i hi; have h0 : i = 0 ∨ i = 1 := (by omega); rcases h0 with rfl | rfl <;> rfl) | (intro i hi; have h0 : i = 0 ∨ i = 1 ∨ i = 2 := (by omega); rcases h0 with rfl | rfl | rfl <;> rfl)) ?_ | apply_assumption -exfalso -symm)
  all_goals (first | (show endQ _ _ _ _ _ _ _; (repeat (rename (∀ (A : Fr) (H : Hp), AWP _ _ _ _ A H → _) => hK; clear hK)); (repeat (rename (Fr → Hp → Prop) => K; clear K))) | (show Exists _; (repeat (rename (∀ (A : Fr) (H : Hp), AWP _ _ _ _ A H → _) => hK; clear hK)); (repeat (rename (Fr → Hp → Prop) => K; clear K))) | skip)
  refine awp_loop (ι := Nat × Nat) (fun q => [(0, .v (.int .i64 ((q.1 : Nat)))), (1, .v (.int .i64 ((q.2 : Nat))))]) (fun q => Hp.emp) (fun q => (q.1 ≤ 1000000000 ∧ q.2 ≤ 1000000000) ∧ Nat.gcd q.1 q.2 = Nat.gcd a b) (fun q => q.2) (a, b) ?_ (Sub.toL (by simp only [go_sem] <;> first | trivial | (simp only [Option.some.injEq, AV.v.injEq, AV.own.injEq, AV.list.injEq, Value.int.injEq, Value.bool.injEq, true_and, and_true]; first | omega | (simp; done)) | (simp; done) | (simp; omega)) (by (repeat' (first | exact Hp.le_emp _ | exact Hp.le_refl _ | refine Hp.le_upd ?_ ?_)); all_goals (first | rfl | (simp only [go_sem]; first | rfl | (refine cellsE ?_ ?_ <;> (simp)) | (simp))))) ?_
  · exact ⟨ha, rfl⟩
  rintro ⟨x, y⟩ ⟨hq, hg⟩
  dsimp only at hq hg ⊢
  have e1 := tmod_nat x y
  have e2 : y ≠ 0 → x % y < y := fun h => Nat.mod_lt _ (by omega)
  repeat' (first | refine awp_seqK fun K hK => ?_ | (refine awp_regionK 83 rfl ?_; simp only [List.map_cons, List.map_nil]; simp (maxSteps := 1000000) (dsimp := false) (implicitDefEqProofs := false) (disch := omega) only [wrap64, go_sem, e1]) | (refine awp_regionQK 83 (by kernel_rfl) (by kernel_rfl) (by kernel_rfl) ?_; simp only [List.map_cons, List.map_nil]; simp (maxSteps := 1000000) (dsimp := false) (implicitDefEqProofs := false) (disch := omega) only [wrap64, go_sem, e1]) | refine awp_block ?_ | (refine awp_skip ?_; simp only [go_sem, e1]) | (refine awp_exit ?_; simp only [go_sem, e1]) | (refine awp_ret ?_; try simp only [go_sem, e1]) | (refine awp_condP rfl ?_; try simp only [go_sem, e1]) | (refine BrP.mk (fun h => ?_) (fun h => ?_) <;> try simp (dsimp := false) (disch := omega) only [wrap64]) | (refine Br.mk (fun h => ?_) (fun h => ?_) <;> try simp (dsimp := false) (disch := omega) only [wrap64]) | refine Ob.mk (by first | omega | (intro _ _; rfl) | trivial | (intros; trivial) | assumption | (intro i hi; have h0 : i = 0 := (by omega); subst h0; first | rfl | trivial) | (intro i hi; have h0 : i = 0 ∨ i = 1 := (by omega); rcases h0 with rfl | rfl <;> rfl) | (intro i hi; have h0 : i = 0 ∨ i = 1 ∨ i = 2 := (by omega); rcases h0 with rfl | rfl | rfl <;> rfl)) ?_ | apply_assumption -exfalso -symm)
  all_goals (first | (show endQ _ _ _ _ _ _ _; (repeat (rename (∀ (A : Fr) (H : Hp), AWP _ _ _ _ A H → _) => hK; clear hK)); (repeat (rename (Fr → Hp → Prop) => K; clear K))) | (show Exists _; (repeat (rename (∀ (A : Fr) (H : Hp), AWP _ _ _ _ A H → _) => hK; clear hK)); (repeat (rename (Fr → Hp → Prop) => K; clear K))) | skip)
  · have e : y = 0 := by omega
    subst e
    exact end_retV' rfl rfl (by rw [← hg, Nat.gcd_zero_right])
  · exact ⟨(y, x % y), ⟨⟨by dsimp only; omega, by have := Nat.mod_le x y; dsimp only; omega⟩, by rw [← hg, gcd_step x y]⟩, Nat.mod_lt _ (by omega), Sub.toL (by simp only [go_sem] <;> first | trivial | (simp only [Option.some.injEq, AV.v.injEq, AV.own.injEq, AV.list.injEq, Value.int.injEq, Value.bool.injEq, true_and, and_true]; first | omega | (simp; done)) | (simp; done) | (simp; omega)) (by (repeat' (first | exact Hp.le_emp _ | exact Hp.le_refl _ | refine Hp.le_upd ?_ ?_)); all_goals (first | rfl | (simp only [go_sem]; first | rfl | (refine cellsE ?_ ?_ <;> (simp)) | (simp))))⟩
theorem specGcd_ok (a b : Nat) (ha : a ≤ 1000000000 ∧ b ≤ 1000000000) : AC Try.prog 289 [.v (.int .i64 ((a : Nat))), .v (.int .i64 ((b : Nat)))] Hp.emp (fun _ => false) (retV (.v (.int .i64 ((Nat.gcd a b : Nat))))) := by
  refine ac_of_awp (N := ⟨_, fun _ => false, fun _ _ => rfl⟩) Try.func289 rfl (by kernel_rfl) Try.ntmps289 (by simp) ?_
  simp only [argsFr, List.zipIdx_cons, List.zipIdx_nil, go_sem]
  repeat' (first | refine awp_seqK fun K hK => ?_ | (refine awp_regionK 179 rfl ?_; simp only [List.map_cons, List.map_nil]; simp (maxSteps := 1000000) (dsimp := false) (implicitDefEqProofs := false) (disch := omega) only [wrap64, go_sem]) | (refine awp_regionQK 179 (by kernel_rfl) (by kernel_rfl) (by kernel_rfl) ?_; simp only [List.map_cons, List.map_nil]; simp (maxSteps := 1000000) (dsimp := false) (implicitDefEqProofs := false) (disch := omega) only [wrap64, go_sem]) | refine awp_block ?_ | (refine awp_skip ?_; simp only [go_sem]) | (refine awp_exit ?_; simp only [go_sem]) | (refine awp_ret ?_; try simp only [go_sem]) | (refine awp_condP rfl ?_; try simp only [go_sem]) | (refine BrP.mk (fun h => ?_) (fun h => ?_) <;> try simp (dsimp := false) (disch := omega) only [wrap64]) | (refine Br.mk (fun h => ?_) (fun h => ?_) <;> try simp (dsimp := false) (disch := omega) only [wrap64]) | refine Ob.mk (by first | omega | (intro _ _; rfl) | trivial | (intros; trivial) | assumption | (intro i hi; have h0 : i = 0 := (by omega); subst h0; first | rfl | trivial) | (intro i hi; have h0 : i = 0 ∨ i = 1 := (by omega); rcases h0 with rfl | rfl <;> rfl) | (intro i hi; have h0 : i = 0 ∨ i = 1 ∨ i = 2 := (by omega); rcases h0 with rfl | rfl | rfl <;> rfl)) ?_ | apply_assumption -exfalso -symm)
  all_goals (first | (show endQ _ _ _ _ _ _ _; (repeat (rename (∀ (A : Fr) (H : Hp), AWP _ _ _ _ A H → _) => hK; clear hK)); (repeat (rename (Fr → Hp → Prop) => K; clear K))) | (show Exists _; (repeat (rename (∀ (A : Fr) (H : Hp), AWP _ _ _ _ A H → _) => hK; clear hK)); (repeat (rename (Fr → Hp → Prop) => K; clear K))) | skip)
  refine awp_loop (ι := Nat × Nat) (fun q => [(0, .v (.int .i64 ((q.1 : Nat)))), (1, .v (.int .i64 ((q.2 : Nat))))]) (fun q => Hp.emp) (fun q => (q.1 ≤ 1000000000 ∧ q.2 ≤ 1000000000) ∧ Nat.gcd q.1 q.2 = Nat.gcd a b) (fun q => q.2) (a, b) ?_ (Sub.toL (by simp only [go_sem] <;> first | trivial | (simp only [Option.some.injEq, AV.v.injEq, AV.own.injEq, AV.list.injEq, Value.int.injEq, Value.bool.injEq, true_and, and_true]; first | omega | (simp; done)) | (simp; done) | (simp; omega)) (by (repeat' (first | exact Hp.le_emp _ | exact Hp.le_refl _ | refine Hp.le_upd ?_ ?_)); all_goals (first | rfl | (simp only [go_sem]; first | rfl | (refine cellsE ?_ ?_ <;> (simp)) | (simp))))) ?_
  · exact ⟨ha, rfl⟩
  rintro ⟨x, y⟩ ⟨hq, hg⟩
  dsimp only at hq hg ⊢
  have e1 := tmod_nat x y
  repeat' (first | refine awp_seqK fun K hK => ?_ | (refine awp_regionK 179 rfl ?_; simp only [List.map_cons, List.map_nil]; simp (maxSteps := 1000000) (dsimp := false) (implicitDefEqProofs := false) (disch := omega) only [wrap64, go_sem, e1]) | (refine awp_regionQK 179 (by kernel_rfl) (by kernel_rfl) (by kernel_rfl) ?_; simp only [List.map_cons, List.map_nil]; simp (maxSteps := 1000000) (dsimp := false) (implicitDefEqProofs := false) (disch := omega) only [wrap64, go_sem, e1]) | refine awp_block ?_ | (refine awp_skip ?_; simp only [go_sem, e1]) | (refine awp_exit ?_; simp only [go_sem, e1]) | (refine awp_ret ?_; try simp only [go_sem, e1]) | (refine awp_condP rfl ?_; try simp only [go_sem, e1]) | (refine BrP.mk (fun h => ?_) (fun h => ?_) <;> try simp (dsimp := false) (disch := omega) only [wrap64]) | (refine Br.mk (fun h => ?_) (fun h => ?_) <;> try simp (dsimp := false) (disch := omega) only [wrap64]) | refine Ob.mk (by first | omega | (intro _ _; rfl) | trivial | (intros; trivial) | assumption | (intro i hi; have h0 : i = 0 := (by omega); subst h0; first | rfl | trivial) | (intro i hi; have h0 : i = 0 ∨ i = 1 := (by omega); rcases h0 with rfl | rfl <;> rfl) | (intro i hi; have h0 : i = 0 ∨ i = 1 ∨ i = 2 := (by omega); rcases h0 with rfl | rfl | rfl <;> rfl)) ?_ | apply_assumption -exfalso -symm)
  all_goals (first | (show endQ _ _ _ _ _ _ _; (repeat (rename (∀ (A : Fr) (H : Hp), AWP _ _ _ _ A H → _) => hK; clear hK)); (repeat (rename (Fr → Hp → Prop) => K; clear K))) | (show Exists _; (repeat (rename (∀ (A : Fr) (H : Hp), AWP _ _ _ _ A H → _) => hK; clear hK)); (repeat (rename (Fr → Hp → Prop) => K; clear K))) | skip)
  · have e : y = 0 := by omega
    subst e
    exact end_retV' rfl rfl (by rw [← hg, Nat.gcd_zero_right])
  · exact ⟨(y, x % y), ⟨⟨by dsimp only; omega, by have := Nat.mod_le x y; dsimp only; omega⟩, by rw [← hg, gcd_step x y]⟩, Nat.mod_lt _ (by omega), Sub.toL (by simp only [go_sem] <;> first | trivial | (simp only [Option.some.injEq, AV.v.injEq, AV.own.injEq, AV.list.injEq, Value.int.injEq, Value.bool.injEq, true_and, and_true]; first | omega | (simp; done)) | (simp; done) | (simp; omega)) (by (repeat' (first | exact Hp.le_emp _ | exact Hp.le_refl _ | refine Hp.le_upd ?_ ?_)); all_goals (first | rfl | (simp only [go_sem]; first | rfl | (refine cellsE ?_ ?_ <;> (simp)) | (simp))))⟩
theorem specCycleOf_ok (n : Nat) (p : List Int) (i : Nat) (hp : Pm n p) (hn : n ≤ 20) (hi : i < n) (d : Nat) : AC Try.prog 288 [ints p, .v (.int .i64 ((i : Nat)))] Hp.emp (fun _ => false) (retI d (cyc p i)) := by
  have hl := hp.1
  obtain ⟨hc1, hc2, hc3⟩ := Go.Pm.clen_ok hp hi
  have hc0 := Go.Pm.clen_pos p i
  have hg : ∀ k, p.getD (itr p i k) 0 = ((itr p i (k + 1) : Nat) : Int) := fun k => hp.get_eq (Go.Pm.itr_lt hp hi k)
  have hg0 : p.getD i 0 = ((itr p i 1 : Nat) : Int) := hg 0
  have hb : ∀ k, itr p i k < n := fun k => Go.Pm.itr_lt hp hi k
  have hcl := Go.Pm.cyc_length p i
  have h1 : (cyc p i).take 1 = [(i : Int)] := by
    rw [List.take_succ_eq_append_getElem (by omega)]
    simp [cyc, itr]
  refine ac_of_awp (N := ⟨_, fun _ => false, fun _ _ => rfl⟩) Try.func288 rfl (by kernel_rfl) Try.ntmps288 (by simp) ?_
  simp only [argsFr, List.zipIdx_cons, List.zipIdx_nil, go_sem]
  repeat' (first | refine awp_seqK fun K hK => ?_ | (refine awp_regionK 32883 rfl ?_; simp only [List.map_cons, List.map_nil]; simp (maxSteps := 1000000) (dsimp := false) (implicitDefEqProofs := false) (disch := omega) only [wrap64, go_sem, hg0]) | (refine awp_regionQK 32883 (by kernel_rfl) (by kernel_rfl) (by kernel_rfl) ?_; simp only [List.map_cons, List.map_nil]; simp (maxSteps := 1000000) (dsimp := false) (implicitDefEqProofs := false) (disch := omega) only [wrap64, go_sem, hg0]) | refine awp_block ?_ | (refine awp_skip ?_; simp only [go_sem, hg0]) | (refine awp_exit ?_; simp only [go_sem, hg0]) | (refine awp_ret ?_; try simp only [go_sem, hg0]) | (refine awp_condP rfl ?_; try simp only [go_sem, hg0]) | (refine BrP.mk (fun h => ?_) (fun h => ?_) <;> try simp (dsimp := false) (disch := omega) only [wrap64]) | (refine Br.mk (fun h => ?_) (fun h => ?_) <;> try simp (dsimp := false) (disch := omega) only [wrap64]) | refine Ob.mk (by first | omega | (intro _ _; rfl) | trivial | (intros; trivial) | assumption | (intro i hi; have h0 : i = 0 := (by omega); subst h0; first | rfl | trivial) | (intro i hi; have h0 : i = 0 ∨ i = 1 := (by omega); rcases h0 with rfl | rfl <;> rfl) | (intro i hi; have h0 : i = 0 ∨ i = 1 ∨ i = 2 := (by omega); rcases h0 with rfl | rfl | rfl <;> rfl)) ?_ | apply_assumption -exfalso -symm)
  all_goals (first | (show endQ _ _ _ _ _ _ _; (repeat (rename (∀ (A : Fr) (H : Hp), AWP _ _ _ _ A H → _) => hK; clear hK)); (repeat (rename (Fr → Hp → Prop) => K; clear K))) | (show Exists _; (repeat (rename (∀ (A : Fr) (H : Hp), AWP _ _ _ _ A H → _) => hK; clear hK)); (repeat (rename (Fr → Hp → Prop) => K; clear K))) | skip)
  refine awp_loop (ι := Nat) (fun k => [(6, .v (.int .i64 ((itr p i k : Nat)))), (5, .own 8 0 1 k), (0, .list false 1 (p).length (cM iv 0 (p))), (1, .v (.int .i64 ((i : Nat))))]) (fun k => Hp.emp.upd 8 (.cells k (cM iv 0 ((cyc p i).take k)))) (fun k => 1 ≤ k ∧ k ≤ clen p i) (fun k => clen p i - k) 1 ?_ (Sub.toL (by simp only [go_sem] <;> first | trivial | (simp only [Option.some.injEq, AV.v.injEq, AV.own.injEq, AV.list.injEq, Value.int.injEq, Value.bool.injEq, true_and, and_true]; first | omega | (simp [h1]; done)) | (simp [h1]; done) | (simp [h1]; omega)) (by (repeat' (first | exact Hp.le_emp _ | exact Hp.le_refl _ | refine Hp.le_upd ?_ ?_)); all_goals (first | rfl | (simp only [go_sem]; first | rfl | (refine cellsE ?_ ?_ <;> (simp [h1])) | (simp [h1]))))) ?_
  · exact ⟨Nat.le_refl _, hc0⟩
  intro k hk
  have hgk := hg k
  have hbk := hb k
  have htl : ((cyc p i).take k).length = k := by rw [List.length_take]; omega
  repeat' (first | refine awp_seqK fun K hK => ?_ | (refine awp_regionK 32883 rfl ?_; simp only [List.map_cons, List.map_nil]; simp (maxSteps := 1000000) (dsimp := false) (implicitDefEqProofs := false) (disch := omega) only [wrap64, go_sem, hgk]) | (refine awp_regionQK 32883 (by kernel_rfl) (by kernel_rfl) (by kernel_rfl) ?_; simp only [List.map_cons, List.map_nil]; simp (maxSteps := 1000000) (dsimp := false) (implicitDefEqProofs := false) (disch := omega) only [wrap64, go_sem, hgk]) | refine awp_block ?_ | (refine awp_skip ?_; simp only [go_sem, hgk]) | (refine awp_exit ?_; simp only [go_sem, hgk]) | (refine awp_ret ?_; try simp only [go_sem, hgk]) | (refine awp_condP rfl ?_; try simp only [go_sem, hgk]) | (refine BrP.mk (fun h => ?_) (fun h => ?_) <;> try simp (dsimp := false) (disch := omega) only [wrap64]) | (refine Br.mk (fun h => ?_) (fun h => ?_) <;> try simp (dsimp := false) (disch := omega) only [wrap64]) | refine Ob.mk (by first | omega | (intro _ _; rfl) | trivial | (intros; trivial) | assumption | (intro i hi; have h0 : i = 0 := (by omega); subst h0; first | rfl | trivial) | (intro i hi; have h0 : i = 0 ∨ i = 1 := (by omega); rcases h0 with rfl | rfl <;> rfl) | (intro i hi; have h0 : i = 0 ∨ i = 1 ∨ i = 2 := (by omega); rcases h0 with rfl | rfl | rfl <;> rfl)) ?_ | apply_assumption -exfalso -symm)
  all_goals (first | (show endQ _ _ _ _ _ _ _; (repeat (rename (∀ (A : Fr) (H : Hp), AWP _ _ _ _ A H → _) => hK; clear hK)); (repeat (rename (Fr → Hp → Prop) => K; clear K))) | (show Exists _; (repeat (rename (∀ (A : Fr) (H : Hp), AWP _ _ _ _ A H → _) => hK; clear hK)); (repeat (rename (Fr → Hp → Prop) => K; clear K))) | skip)
  · have e : k = clen p i := by
      rcases Nat.lt_or_ge k (clen p i) with h | h
      · exact absurd (by omega : itr p i k = i) (hc3 k (by omega) h)
      · omega
    subst e
    refine end_retI' rfl rfl rfl ?_ htl.symm rfl
    rw [← hcl, List.take_length]
  · have hlt : k < clen p i := by
      rcases Nat.lt_or_ge k (clen p i) with h | h
      · exact h
      · have e : k = clen p i := by omega
        exact absurd (by rw [e]; exact hc2) (show ¬ itr p i k = i by omega)
    have e1 : (cyc p i).take (k + 1) = (cyc p i).take k ++ [((itr p i k : Nat) : Int)] := by
      rw [List.take_succ_eq_append_getElem (by omega)]
      simp [cyc]
    have hap := apF_cM iv 0 ((cyc p i).take k) [((itr p i k : Nat) : Int)]
    rw [htl, ← e1] at hap
    exact ⟨k + 1, by omega, by omega, Sub.toL (by simp only [go_sem] <;> first | trivial | (simp only [Option.some.injEq, AV.v.injEq, AV.own.injEq, AV.list.injEq, Value.int.injEq, Value.bool.injEq, true_and, and_true]; first | omega | (simp; done)) | (simp; done) | (simp; omega)) (by (repeat' (first | exact Hp.le_emp _ | exact Hp.le_refl _ | refine Hp.le_upd ?_ ?_)); all_goals (first | rfl | (simp only [go_sem]; first | rfl | (refine cellsE ?_ ?_ <;> (simp [hap])) | (simp [hap]))))⟩
/-- How long the cycles of all points are. -/
def clens (p : List Int) : List Nat := (List.range p.length).map (clen p)
theorem clens_get {p : List Int} {k : Nat} (h : k < p.length) : (clens p).getD k 0 = clen p k := by simp [clens, List.getD_eq_getElem?_getD, h]
theorem clens_in {n : Nat} {p : List Int} (hp : Pm n p) (hn : n ≤ 20) (k : Nat) : 0 < lcmL ((clens p).take k) ∧ lcmL ((clens p).take k) ≤ 232792560 := Go.Pm.lcm_20 fun x hx => by
  obtain ⟨i, hi, rfl⟩ := List.mem_map.1 (List.mem_of_mem_take hx)
  have hi' : i < n := by rw [← hp.1]; exact List.mem_range.1 hi
  have := (Go.Pm.clen_ok hp hi').1
  exact ⟨Go.Pm.clen_pos p i, by omega⟩
theorem tmul_nat (x y : Nat) : (x : Int) * (y : Int) = ((x * y : Nat) : Int) := (Int.natCast_mul x y).symm
theorem specElementOrder_ok (p : List Int) (h : isPerm p) : AC Try.prog 250 [ints p] Hp.emp (fun _ => false) (retV (.v (.int .i64 ((ord p : Nat))))) := by
  obtain ⟨hpl, hp⟩ := (isPerm_pm p).1 h
  have ht : decide (isPerm p) = true := decide_eq_true h
  refine ac_of_awp (N := ⟨_, fun _ => false, fun _ _ => rfl⟩) Try.func250 rfl (by kernel_rfl) Try.ntmps250 (by simp) ?_
  simp only [argsFr, List.zipIdx_cons, List.zipIdx_nil, go_sem]
  repeat' (first | refine awp_seqK fun K hK => ?_ | (refine awp_regionK 4413 rfl ?_; simp only [List.map_cons, List.map_nil]; simp (maxSteps := 1000000) (dsimp := false) (implicitDefEqProofs := false) (disch := omega) only [wrap64, go_sem, ht]) | (refine awp_regionQK 4413 (by kernel_rfl) (by kernel_rfl) (by kernel_rfl) ?_; simp only [List.map_cons, List.map_nil]; simp (maxSteps := 1000000) (dsimp := false) (implicitDefEqProofs := false) (disch := omega) only [wrap64, go_sem, ht]) | refine awp_block ?_ | (refine awp_skip ?_; simp only [go_sem, ht]) | (refine awp_exit ?_; simp only [go_sem, ht]) | (refine awp_ret ?_; try simp only [go_sem, ht]) | (refine awp_condP rfl ?_; try simp only [go_sem, ht]) | (refine BrP.mk (fun h => ?_) (fun h => ?_) <;> try simp (dsimp := false) (disch := omega) only [wrap64]) | (refine Br.mk (fun h => ?_) (fun h => ?_) <;> try simp (dsimp := false) (disch := omega) only [wrap64]) | refine Ob.mk (by first | omega | (intro _ _; rfl) | trivial | (intros; trivial) | assumption | (intro i hi; have h0 : i = 0 := (by omega); subst h0; first | rfl | trivial) | (intro i hi; have h0 : i = 0 ∨ i = 1 := (by omega); rcases h0 with rfl | rfl <;> rfl) | (intro i hi; have h0 : i = 0 ∨ i = 1 ∨ i = 2 := (by omega); rcases h0 with rfl | rfl | rfl <;> rfl)) ?_ | ((first | ((first | refine atF (f := 119) ?_ | refine atQ (f := 119) ?_); (first | (refine cV (hac := specIsPermutation_ok p) (hK := ?_)) | (refine cQV (hac := specIsPermutation_ok p) (hK := ?_))))); simp (maxSteps := 1000000) (dsimp := false) (implicitDefEqProofs := false) (disch := omega) only [wrap64, go_sem, ht]) | apply_assumption -exfalso -symm)
  all_goals (first | (show endQ _ _ _ _ _ _ _; (repeat (rename (∀ (A : Fr) (H : Hp), AWP _ _ _ _ A H → _) => hK; clear hK)); (repeat (rename (Fr → Hp → Prop) => K; clear K))) | (show Exists _; (repeat (rename (∀ (A : Fr) (H : Hp), AWP _ _ _ _ A H → _) => hK; clear hK)); (repeat (rename (Fr → Hp → Prop) => K; clear K))) | skip)
  refine awp_loop (ι := Nat) (fun k => [(4, .v (.int .i64 ((k : Nat)))), (3, .v (.int .i64 ((lcmL ((clens p).take k) : Nat)))), (0, .list false 1 (p).length (cM iv 0 (p)))]) (fun k => Hp.emp) (fun k => k ≤ p.length) (fun k => p.length - k) 0 ?_ (Sub.toL (by simp only [go_sem] <;> first | trivial | (simp only [Option.some.injEq, AV.v.injEq, AV.own.injEq, AV.list.injEq, Value.int.injEq, Value.bool.injEq, true_and, and_true]; first | omega | (simp; done)) | (simp; done) | (simp; omega)) (by (repeat' (first | exact Hp.le_emp _ | exact Hp.le_refl _ | refine Hp.le_upd ?_ ?_)); all_goals (first | rfl | (simp only [go_sem]; first | rfl | (refine cellsE ?_ ?_ <;> (simp)) | (simp))))) ?_
  · exact Nat.zero_le _
  intro k hk
  have ho := clens_in hp (by omega) k
  have hc := Go.Pm.clen_pos p k
  have hcl := Go.Pm.cyc_length p k
  have hc2 : k < p.length → clen p k ≤ 20 := fun h => by have := (Go.Pm.clen_ok hp h).1; omega
  obtain ⟨o, eo⟩ : ∃ o, o = lcmL ((clens p).take k) := ⟨_, rfl⟩
  obtain ⟨c, ec⟩ : ∃ c, c = clen p k := ⟨_, rfl⟩
  rw [← eo] at ho ⊢
  rw [← ec] at hc hcl hc2
  have hs : k < p.length → lcmL ((clens p).take (k + 1)) = o / Nat.gcd o c * c := fun h => by
    rw [Go.Pm.lcmL_snoc _ k (by simp [clens]; exact h), clens_get h, ← eo, ← ec, Go.Pm.lcm_div]
  have hs2 : k < p.length → o / Nat.gcd o c * c ≤ 232792560 := fun h => by rw [← hs h]; exact (clens_in hp (by omega) (k + 1)).2
  have hgp : 0 < Nat.gcd o c := Nat.gcd_pos_of_pos_left _ (by omega)
  obtain ⟨q, eq⟩ : ∃ q, q = o / Nat.gcd o c := ⟨_, rfl⟩
  have hdl : q ≤ o := by rw [eq]; exact Nat.div_le_self _ _
  rw [← eq] at hs hs2
  obtain ⟨m, em⟩ : ∃ m, m = q * c := ⟨_, rfl⟩
  rw [← em] at hs hs2
  have e1 : (o : Int).tdiv (Nat.gcd o c : Nat) = (q : Int) := by rw [eq]; exact tdiv_nat _ _
  have e2 : (q : Int) * (c : Int) = (m : Int) := by rw [em]; exact tmul_nat _ _
  repeat' (first | refine awp_seqK fun K hK => ?_ | (refine awp_regionK 4413 rfl ?_; simp only [List.map_cons, List.map_nil]; simp (maxSteps := 1000000) (dsimp := false) (implicitDefEqProofs := false) (disch := omega) only [wrap64, go_sem, hcl, e1, e2]) | (refine awp_regionQK 4413 (by kernel_rfl) (by kernel_rfl) (by kernel_rfl) ?_; simp only [List.map_cons, List.map_nil]; simp (maxSteps := 1000000) (dsimp := false) (implicitDefEqProofs := false) (disch := omega) only [wrap64, go_sem, hcl, e1, e2]) | refine awp_block ?_ | (refine awp_skip ?_; simp only [go_sem, hcl, e1, e2]) | (refine awp_exit ?_; simp only [go_sem, hcl, e1, e2]) | (refine awp_ret ?_; try simp only [go_sem, hcl, e1, e2]) | (refine awp_condP rfl ?_; try simp only [go_sem, hcl, e1, e2]) | (refine BrP.mk (fun h => ?_) (fun h => ?_) <;> try simp (dsimp := false) (disch := omega) only [wrap64]) | (refine Br.mk (fun h => ?_) (fun h => ?_) <;> try simp (dsimp := false) (disch := omega) only [wrap64]) | refine Ob.mk (by first | omega | (intro _ _; rfl) | trivial | (intros; trivial) | assumption | (intro i hi; have h0 : i = 0 := (by omega); subst h0; first | rfl | trivial) | (intro i hi; have h0 : i = 0 ∨ i = 1 := (by omega); rcases h0 with rfl | rfl <;> rfl) | (intro i hi; have h0 : i = 0 ∨ i = 1 ∨ i = 2 := (by omega); rcases h0 with rfl | rfl | rfl <;> rfl)) ?_ | ((first | ((first | refine atF (f := 288) ?_ | refine atQ (f := 288) ?_); (first | (refine cFI (hac := specCycleOf_ok p.length p k hp (by omega) (by omega) 20) (hK := ?_)) | (refine cQI (hac := specCycleOf_ok p.length p k hp (by omega) (by omega) 20) (hK := ?_)))) | ((first | refine atF (f := 289) ?_ | refine atQ (f := 289) ?_); (first | (refine cV (hac := specGcd_ok o c (by omega)) (hK := ?_)) | (refine cQV (hac := specGcd_ok o c (by omega)) (hK := ?_))))); simp (maxSteps := 1000000) (dsimp := false) (implicitDefEqProofs := false) (disch := omega) only [wrap64, go_sem, hcl, e1, e2]) | apply_assumption -exfalso -symm)
  all_goals (first | (show endQ _ _ _ _ _ _ _; (repeat (rename (∀ (A : Fr) (H : Hp), AWP _ _ _ _ A H → _) => hK; clear hK)); (repeat (rename (Fr → Hp → Prop) => K; clear K))) | (show Exists _; (repeat (rename (∀ (A : Fr) (H : Hp), AWP _ _ _ _ A H → _) => hK; clear hK)); (repeat (rename (Fr → Hp → Prop) => K; clear K))) | skip)
  · exact ⟨k + 1, by omega, by omega, Sub.toL (by simp only [go_sem] <;> first | trivial | (simp only [Option.some.injEq, AV.v.injEq, AV.own.injEq, AV.list.injEq, Value.int.injEq, Value.bool.injEq, true_and, and_true]; first | omega | (simp [hs (by omega)]; done)) | (simp [hs (by omega)]; done) | (simp [hs (by omega)]; omega)) (by (repeat' (first | exact Hp.le_emp _ | exact Hp.le_refl _ | refine Hp.le_upd ?_ ?_)); all_goals (first | rfl | (simp only [go_sem]; first | rfl | (refine cellsE ?_ ?_ <;> (simp)) | (simp))))⟩
  · have e : k = p.length := by omega
    subst e
    rw [eo]
    refine end_retV' rfl rfl ?_
    rw [show (clens p).take p.length = clens p from by rw [show p.length = (clens p).length by simp [clens], List.take_length]]; rfl
end Go.Proofs.Ytcfnbahpdlmcpaa
end
/- The program's cycles and orders. -/
section
namespace Go.Proofs.Ytcfnbahpdlmcpaa
open Go.Av
set_option linter.unusedSimpArgs false
set_option linter.unusedVariables false
attribute [local irreducible] AWP CallG Ob Br BrP Go.Av.Sub endQ AOps OpV AC thenA blkA opsVC opVC withA withArgs opsQ opQ CallQ withA2 withArgs2
open Go.Pm (Pm comp invp idn img itr clen cyc isMn cycs lcmL ord sn snK stK cycsK)
theorem implCycles_ok (n : Nat) (p : List Int) (hp : Pm n p) (hn : n ≤ 20) : AC Try.prog 278 [ints p] Hp.emp (fun _ => false) (retV (intss (cycs p))) := by
  have hl := hp.1
  have hz := Go.Pm.snK_zero p
  refine ac_of_awp (N := ⟨_, fun _ => false, fun _ _ => rfl⟩) Try.func278 rfl (by kernel_rfl) Try.ntmps278 (by simp) ?_
  simp only [argsFr, List.zipIdx_cons, List.zipIdx_nil, go_sem]
  repeat' (first | refine awp_seqK fun K hK => ?_ | (refine awp_regionK 34361864445 rfl ?_; simp only [List.map_cons, List.map_nil]; simp (maxSteps := 1000000) (dsimp := false) (implicitDefEqProofs := false) (disch := omega) only [wrap64, go_sem, zF_bv]) | (refine awp_regionQK 34361864445 (by kernel_rfl) (by kernel_rfl) (by kernel_rfl) ?_; simp only [List.map_cons, List.map_nil]; simp (maxSteps := 1000000) (dsimp := false) (implicitDefEqProofs := false) (disch := omega) only [wrap64, go_sem, zF_bv]) | refine awp_block ?_ | (refine awp_skip ?_; simp only [go_sem, zF_bv]) | (refine awp_exit ?_; simp only [go_sem, zF_bv]) | (refine awp_ret ?_; try simp only [go_sem, zF_bv]) | (refine awp_condP rfl ?_; try simp only [go_sem, zF_bv]) | (refine BrP.mk (fun h => ?_) (fun h => ?_) <;> try simp (dsimp := false) (disch := omega) only [wrap64]) | (refine Br.mk (fun h => ?_) (fun h => ?_) <;> try simp (dsimp := false) (disch := omega) only [wrap64]) | refine Ob.mk (by first | omega | (intro _ _; rfl) | trivial | (intros; trivial) | assumption | (intro i hi; have h0 : i = 0 := (by omega); subst h0; first | rfl | trivial) | (intro i hi; have h0 : i = 0 ∨ i = 1 := (by omega); rcases h0 with rfl | rfl <;> rfl) | (intro i hi; have h0 : i = 0 ∨ i = 1 ∨ i = 2 := (by omega); rcases h0 with rfl | rfl | rfl <;> rfl)) ?_ | apply_assumption -exfalso -symm)
  all_goals (first | (show endQ _ _ _ _ _ _ _; (repeat (rename (∀ (A : Fr) (H : Hp), AWP _ _ _ _ A H → _) => hK; clear hK)); (repeat (rename (Fr → Hp → Prop) => K; clear K))) | (show Exists _; (repeat (rename (∀ (A : Fr) (H : Hp), AWP _ _ _ _ A H → _) => hK; clear hK)); (repeat (rename (Fr → Hp → Prop) => K; clear K))) | skip)
  rw [← hz]
  refine awp_loop (ι := Nat) (fun i => [(13, .v (.int .i64 ((i : Nat)))), (12, .v (.int .i64 (p.length))), (4, .own 10 0 1 p.length), (3, .own 39 0 1 (cycsK p i).length), (0, .list false 1 (p).length (cM iv 0 (p)))]) (fun i => (Hp.emp.upd 10 (.cells p.length (cM bv false (snK p i 0)))).upd 39 (.cells (cycsK p i).length (cM ints [] (cycsK p i)))) (fun i => i ≤ n) (fun i => n - i) 0 (Nat.zero_le _) (Sub.trans (Sub.nil (i := 3) 39 1 (cM ints [] []) rfl rfl) (Sub.toL (by simp only [go_sem] <;> first | trivial | (simp only [Option.some.injEq, AV.v.injEq, AV.own.injEq, AV.list.injEq, Value.int.injEq, Value.bool.injEq, true_and, and_true]; first | omega | (simp; done)) | (simp; done) | (simp; omega)) (by (repeat' (first | exact Hp.le_emp _ | exact Hp.le_refl _ | refine Hp.le_upd ?_ ?_)); all_goals (first | rfl | (simp only [go_sem]; first | rfl | (refine cellsE ?_ ?_ <;> (simp)) | (simp)))))) ?_
  intro i hi
  have hci := Go.Pm.cycsK_len p i
  repeat' (first | refine awp_seqK fun K hK => ?_ | (refine awp_regionK 34361864445 rfl ?_; simp only [List.map_cons, List.map_nil]; simp (maxSteps := 1000000) (dsimp := false) (implicitDefEqProofs := false) (disch := omega) only [wrap64, go_sem]) | (refine awp_regionQK 34361864445 (by kernel_rfl) (by kernel_rfl) (by kernel_rfl) ?_; simp only [List.map_cons, List.map_nil]; simp (maxSteps := 1000000) (dsimp := false) (implicitDefEqProofs := false) (disch := omega) only [wrap64, go_sem]) | refine awp_block ?_ | (refine awp_skip ?_; simp only [go_sem]) | (refine awp_exit ?_; simp only [go_sem]) | (refine awp_ret ?_; try simp only [go_sem]) | (refine awp_condP rfl ?_; try simp only [go_sem]) | (refine BrP.mk (fun h => ?_) (fun h => ?_) <;> try simp (dsimp := false) (disch := omega) only [wrap64]) | (refine Br.mk (fun h => ?_) (fun h => ?_) <;> try simp (dsimp := false) (disch := omega) only [wrap64]) | refine Ob.mk (by first | omega | (intro _ _; rfl) | trivial | (intros; trivial) | assumption | (intro i hi; have h0 : i = 0 := (by omega); subst h0; first | rfl | trivial) | (intro i hi; have h0 : i = 0 ∨ i = 1 := (by omega); rcases h0 with rfl | rfl <;> rfl) | (intro i hi; have h0 : i = 0 ∨ i = 1 ∨ i = 2 := (by omega); rcases h0 with rfl | rfl | rfl <;> rfl)) ?_ | apply_assumption -exfalso -symm)
  all_goals (first | (show endQ _ _ _ _ _ _ _; (repeat (rename (∀ (A : Fr) (H : Hp), AWP _ _ _ _ A H → _) => hK; clear hK)); (repeat (rename (Fr → Hp → Prop) => K; clear K))) | (show Exists _; (repeat (rename (∀ (A : Fr) (H : Hp), AWP _ _ _ _ A H → _) => hK; clear hK)); (repeat (rename (Fr → Hp → Prop) => K; clear K))) | skip)
  · have hin : i < n := by omega
    have hsc := Go.Pm.stK_le hp hin
    have hcl := Go.Pm.cyc_length p i
    have hc20 := (Go.Pm.clen_ok hp hin).1
    refine awp_loop (ι := Nat) (fun k => [(7, .v (.int .i64 ((itr p i k : Nat)))), (6, .own 32 0 1 k), (13, .v (.int .i64 ((i : Nat)))), (12, .v (.int .i64 (p.length))), (4, .own 10 0 1 p.length), (3, .own 39 0 1 (cycsK p i).length), (0, .list false 1 (p).length (cM iv 0 (p)))]) (fun k => ((Hp.emp.upd 10 (.cells p.length (cM bv false (snK p i k)))).upd 39 (.cells (cycsK p i).length (cM ints [] (cycsK p i)))).upd 32 (.cells k (cM iv 0 ((cyc p i).take k)))) (fun k => k ≤ stK p i) (fun k => stK p i - k) 0 (Nat.zero_le _) (Sub.trans (Sub.nil (i := 6) 32 1 (cM iv 0 []) rfl rfl) (Sub.toL (by simp only [go_sem] <;> first | trivial | (simp only [Option.some.injEq, AV.v.injEq, AV.own.injEq, AV.list.injEq, Value.int.injEq, Value.bool.injEq, true_and, and_true]; first | omega | (simp; done)) | (simp; done) | (simp; omega)) (by (repeat' (first | exact Hp.le_emp _ | exact Hp.le_refl _ | refine Hp.le_upd ?_ ?_)); all_goals (first | rfl | (simp only [go_sem]; first | rfl | (refine cellsE ?_ ?_ <;> (simp)) | (simp)))))) ?_
    intro k hk
    have hb := Go.Pm.itr_lt hp hin k
    have hB : (snK p i k).getD (itr p i k) false = decide (k = stK p i) := by
      rw [Bool.eq_iff_iff, decide_eq_true_eq]; exact Go.Pm.st_iff hp hin hk
    have hsl := Go.Pm.snK_len p i k
    have hset := Go.Pm.snK_set p i k
    have hgk : p.getD (itr p i k) 0 = ((itr p i (k + 1) : Nat) : Int) := hp.get_eq hb
    have htl : ((cyc p i).take k).length = k := by rw [List.length_take]; omega
    repeat' (first | refine awp_seqK fun K hK => ?_ | (refine awp_regionK 34361864445 rfl ?_; simp only [List.map_cons, List.map_nil]; simp (maxSteps := 1000000) (dsimp := false) (implicitDefEqProofs := false) (disch := omega) only [wrap64, go_sem, hB, hset, hgk, htl, hsl]) | (refine awp_regionQK 34361864445 (by kernel_rfl) (by kernel_rfl) (by kernel_rfl) ?_; simp only [List.map_cons, List.map_nil]; simp (maxSteps := 1000000) (dsimp := false) (implicitDefEqProofs := false) (disch := omega) only [wrap64, go_sem, hB, hset, hgk, htl, hsl]) | refine awp_block ?_ | (refine awp_skip ?_; simp only [go_sem, hB, hset, hgk, htl, hsl]) | (refine awp_exit ?_; simp only [go_sem, hB, hset, hgk, htl, hsl]) | (refine awp_ret ?_; try simp only [go_sem, hB, hset, hgk, htl, hsl]) | (refine awp_condP rfl ?_; try simp only [go_sem, hB, hset, hgk, htl, hsl]) | (refine BrP.mk (fun h => ?_) (fun h => ?_) <;> try simp (dsimp := false) (disch := omega) only [wrap64]) | (refine Br.mk (fun h => ?_) (fun h => ?_) <;> try simp (dsimp := false) (disch := omega) only [wrap64]) | refine Ob.mk (by first | omega | (intro _ _; rfl) | trivial | (intros; trivial) | assumption | (intro i hi; have h0 : i = 0 := (by omega); subst h0; first | rfl | trivial) | (intro i hi; have h0 : i = 0 ∨ i = 1 := (by omega); rcases h0 with rfl | rfl <;> rfl) | (intro i hi; have h0 : i = 0 ∨ i = 1 ∨ i = 2 := (by omega); rcases h0 with rfl | rfl | rfl <;> rfl)) ?_ | apply_assumption -exfalso -symm)
    all_goals (first | (show endQ _ _ _ _ _ _ _; (repeat (rename (∀ (A : Fr) (H : Hp), AWP _ _ _ _ A H → _) => hK; clear hK)); (repeat (rename (Fr → Hp → Prop) => K; clear K))) | (show Exists _; (repeat (rename (∀ (A : Fr) (H : Hp), AWP _ _ _ _ A H → _) => hK; clear hK)); (repeat (rename (Fr → Hp → Prop) => K; clear K))) | skip)
    · have e : k = stK p i := by assumption
      subst e
      have hnx := Go.Pm.snK_next hp hin
      have hcy := Go.Pm.cycsK_succ hp hin
      rw [if_pos (by omega)] at hcy
      refine ⟨i + 1, by omega, by omega, Sub.toFF (fun x => x = 32) (Fr.fit_cons rfl (.refl _) (Fr.fit_cons rfl (.refl _) (Fr.fit_cons rfl (.refl _) (Fr.fit_cons rfl (.ofEq (by rw [hcy]; simp)) (Fr.fit_cons rfl (.refl _) (Fr.fit_nil _)))))) (leF_upd rfl ⟨by rw [hcy]; simp, fun j hj => ?_⟩ (leF_upd rfl ⟨rfl, fun j hj => .ofEq (by rw [hnx])⟩ leF_emp (by omega)) (by omega))⟩
      rw [hcy]
      refine app_fit (g := (cyc p i).take (stK p i)) (h := 32) (cycsK p i) ?_ ?_ htl.symm j hj <;> rfl
    · have e : k = stK p i := by assumption
      subst e
      have hnx := Go.Pm.snK_next hp hin
      have hcy := Go.Pm.cycsK_succ hp hin
      rw [if_neg (by omega)] at hcy
      exact ⟨i + 1, by omega, by omega, Sub.toL (by simp only [go_sem] <;> first | trivial | (simp only [Option.some.injEq, AV.v.injEq, AV.own.injEq, AV.list.injEq, Value.int.injEq, Value.bool.injEq, true_and, and_true]; first | omega | (simp [hcy]; done)) | (simp [hcy]; done) | (simp [hcy]; omega)) (by (repeat' (first | exact Hp.le_emp _ | exact Hp.le_refl _ | refine Hp.le_upd ?_ ?_)); all_goals (first | rfl | (simp only [go_sem]; first | rfl | (refine cellsE ?_ ?_ <;> (simp [hcy, hnx])) | (simp [hcy, hnx]))))⟩
    · have hlt : k < stK p i := by omega
      have e1 : (cyc p i).take (k + 1) = (cyc p i).take k ++ [((itr p i k : Nat) : Int)] := by
        rw [List.take_succ_eq_append_getElem (by omega)]
        simp [cyc]
      have hap := apF_cM iv 0 ((cyc p i).take k) [((itr p i k : Nat) : Int)]
      rw [htl, ← e1] at hap
      exact ⟨k + 1, by omega, by omega, Sub.toL (by simp only [go_sem] <;> first | trivial | (simp only [Option.some.injEq, AV.v.injEq, AV.own.injEq, AV.list.injEq, Value.int.injEq, Value.bool.injEq, true_and, and_true]; first | omega | (simp; done)) | (simp; done) | (simp; omega)) (by (repeat' (first | exact Hp.le_emp _ | exact Hp.le_refl _ | refine Hp.le_upd ?_ ?_)); all_goals (first | rfl | (simp only [go_sem]; first | rfl | (refine cellsE ?_ ?_ <;> (simp [hap])) | (simp [hap]))))⟩
  · have e : i = n := by omega
    subst e
    refine end_retF rfl rfl ?_
    rw [← Go.Pm.cycsK_all hp]
    exact fits_II rfl trivial rfl rfl
theorem cyclens_in {n : Nat} {p : List Int} (hp : Pm n p) (hn : n ≤ 20) (k : Nat) : 0 < lcmL (((cycs p).map List.length).take k) ∧ lcmL (((cycs p).map List.length).take k) ≤ 232792560 := Go.Pm.lcm_20 fun x hx => by
  obtain ⟨c, hc, rfl⟩ := List.mem_map.1 (List.mem_of_mem_take hx)
  obtain ⟨i, hi, _, h1, rfl⟩ := (Go.Pm.mem_cycs hp c).1 hc
  rw [Go.Pm.cyc_length]
  have := (Go.Pm.clen_ok hp hi).1
  omega
theorem cyc_in {n : Nat} {p : List Int} (hp : Pm n p) (hn : n ≤ 20) {k : Nat} (hk : k < (cycs p).length) : 0 < ((cycs p).getD k []).length ∧ ((cycs p).getD k []).length ≤ 20 := by
  have hm : (cycs p).getD k [] ∈ cycs p := by rw [List.getD_eq_getElem?_getD, List.getElem?_eq_getElem hk]; exact List.getElem_mem hk
  obtain ⟨i, hi, _, h1, e⟩ := (Go.Pm.mem_cycs hp _).1 hm
  rw [e, Go.Pm.cyc_length]
  have := (Go.Pm.clen_ok hp hi).1
  omega
theorem implOrder_ok (n : Nat) (p : List Int) (hp : Pm n p) (hn : n ≤ 20) : AC Try.prog 252 [ints p] Hp.emp (fun _ => false) (retV (.v (.int .i64 ((ord p : Nat))))) := by
  have hcl : (cycs p).length ≤ n := by rw [← Go.Pm.cycsK_all hp]; exact Go.Pm.cycsK_len p n
  refine ac_of_awp (N := ⟨_, fun _ => false, fun _ _ => rfl⟩) Try.func252 rfl (by kernel_rfl) Try.ntmps252 (by simp) ?_
  simp only [argsFr, List.zipIdx_cons, List.zipIdx_nil, go_sem]
  repeat' (first | refine awp_seqK fun K hK => ?_ | (refine awp_regionK 1965 rfl ?_; simp only [List.map_cons, List.map_nil]; simp (maxSteps := 1000000) (dsimp := false) (implicitDefEqProofs := false) (disch := omega) only [wrap64, go_sem]) | (refine awp_regionQK 1965 (by kernel_rfl) (by kernel_rfl) (by kernel_rfl) ?_; simp only [List.map_cons, List.map_nil]; simp (maxSteps := 1000000) (dsimp := false) (implicitDefEqProofs := false) (disch := omega) only [wrap64, go_sem]) | refine awp_block ?_ | (refine awp_skip ?_; simp only [go_sem]) | (refine awp_exit ?_; simp only [go_sem]) | (refine awp_ret ?_; try simp only [go_sem]) | (refine awp_condP rfl ?_; try simp only [go_sem]) | (refine BrP.mk (fun h => ?_) (fun h => ?_) <;> try simp (dsimp := false) (disch := omega) only [wrap64]) | (refine Br.mk (fun h => ?_) (fun h => ?_) <;> try simp (dsimp := false) (disch := omega) only [wrap64]) | refine Ob.mk (by first | omega | (intro _ _; rfl) | trivial | (intros; trivial) | assumption | (intro i hi; have h0 : i = 0 := (by omega); subst h0; first | rfl | trivial) | (intro i hi; have h0 : i = 0 ∨ i = 1 := (by omega); rcases h0 with rfl | rfl <;> rfl) | (intro i hi; have h0 : i = 0 ∨ i = 1 ∨ i = 2 := (by omega); rcases h0 with rfl | rfl | rfl <;> rfl)) ?_ | ((first | ((first | refine atF (f := 278) ?_ | refine atQ (f := 278) ?_); (first | (refine cR (hac := implCycles_ok n p hp hn) (hK := ?_)) | (refine cQR (hac := implCycles_ok n p hp hn) (hK := ?_))))); simp (maxSteps := 1000000) (dsimp := false) (implicitDefEqProofs := false) (disch := omega) only [wrap64, go_sem]) | apply_assumption -exfalso -symm)
  all_goals (first | (show endQ _ _ _ _ _ _ _; (repeat (rename (∀ (A : Fr) (H : Hp), AWP _ _ _ _ A H → _) => hK; clear hK)); (repeat (rename (Fr → Hp → Prop) => K; clear K))) | (show Exists _; (repeat (rename (∀ (A : Fr) (H : Hp), AWP _ _ _ _ A H → _) => hK; clear hK)); (repeat (rename (Fr → Hp → Prop) => K; clear K))) | skip)
  refine awp_loop (ι := Nat) (fun k => [(9, .v (.int .i64 ((k : Nat)))), (8, .v (.int .i64 ((cycs p).length))), (7, .list false 1 (cycs p).length (cM ints [] (cycs p))), (3, .v (.int .i64 ((lcmL (((cycs p).map List.length).take k) : Nat))))]) (fun k => Hp.emp) (fun k => k ≤ (cycs p).length) (fun k => (cycs p).length - k) 0 ?_ (Sub.toL (by simp only [go_sem] <;> first | trivial | (simp only [Option.some.injEq, AV.v.injEq, AV.own.injEq, AV.list.injEq, Value.int.injEq, Value.bool.injEq, true_and, and_true]; first | omega | (simp; done)) | (simp; done) | (simp; omega)) (by (repeat' (first | exact Hp.le_emp _ | exact Hp.le_refl _ | refine Hp.le_upd ?_ ?_)); all_goals (first | rfl | (simp only [go_sem]; first | rfl | (refine cellsE ?_ ?_ <;> (simp)) | (simp))))) ?_
  · exact Nat.zero_le _
  intro k hk
  have ho := cyclens_in hp hn k
  have hc := fun h => cyc_in hp hn (k := k) h
  obtain ⟨o, eo⟩ : ∃ o, o = lcmL (((cycs p).map List.length).take k) := ⟨_, rfl⟩
  obtain ⟨r, er⟩ : ∃ r, r = (cycs p).getD k [] := ⟨_, rfl⟩
  rw [← eo] at ho ⊢
  rw [← er] at hc
  have hs : k < (cycs p).length → lcmL (((cycs p).map List.length).take (k + 1)) = o / Nat.gcd o r.length * r.length := fun h => by
    rw [Go.Pm.lcmL_snoc _ k (by rw [List.length_map]; exact h), ← eo, er, Go.Pm.lcm_div]
    congr 1
    simp [List.getD_eq_getElem?_getD, h]
  have hs2 : k < (cycs p).length → o / Nat.gcd o r.length * r.length ≤ 232792560 := fun h => by rw [← hs h]; exact (cyclens_in hp hn (k + 1)).2
  have hgp : 0 < Nat.gcd o r.length := Nat.gcd_pos_of_pos_left _ (by omega)
  obtain ⟨q, eq⟩ : ∃ q, q = o / Nat.gcd o r.length := ⟨_, rfl⟩
  have hdl : q ≤ o := by rw [eq]; exact Nat.div_le_self _ _
  rw [← eq] at hs hs2
  obtain ⟨m, em⟩ : ∃ m, m = q * r.length := ⟨_, rfl⟩
  rw [← em] at hs hs2
  have e1 : (o : Int).tdiv (Nat.gcd o r.length : Nat) = (q : Int) := by rw [eq]; exact tdiv_nat _ _
  have e2 : (q : Int) * (r.length : Int) = (m : Int) := by rw [em]; exact tmul_nat _ _
  repeat' (first | refine awp_seqK fun K hK => ?_ | (refine awp_regionK 1965 rfl ?_; simp only [List.map_cons, List.map_nil]; simp (maxSteps := 1000000) (dsimp := false) (implicitDefEqProofs := false) (disch := omega) only [wrap64, go_sem, ← er, e1, e2]) | (refine awp_regionQK 1965 (by kernel_rfl) (by kernel_rfl) (by kernel_rfl) ?_; simp only [List.map_cons, List.map_nil]; simp (maxSteps := 1000000) (dsimp := false) (implicitDefEqProofs := false) (disch := omega) only [wrap64, go_sem, ← er, e1, e2]) | refine awp_block ?_ | (refine awp_skip ?_; simp only [go_sem, ← er, e1, e2]) | (refine awp_exit ?_; simp only [go_sem, ← er, e1, e2]) | (refine awp_ret ?_; try simp only [go_sem, ← er, e1, e2]) | (refine awp_condP rfl ?_; try simp only [go_sem, ← er, e1, e2]) | (refine BrP.mk (fun h => ?_) (fun h => ?_) <;> try simp (dsimp := false) (disch := omega) only [wrap64]) | (refine Br.mk (fun h => ?_) (fun h => ?_) <;> try simp (dsimp := false) (disch := omega) only [wrap64]) | refine Ob.mk (by first | omega | (intro _ _; rfl) | trivial | (intros; trivial) | assumption | (intro i hi; have h0 : i = 0 := (by omega); subst h0; first | rfl | trivial) | (intro i hi; have h0 : i = 0 ∨ i = 1 := (by omega); rcases h0 with rfl | rfl <;> rfl) | (intro i hi; have h0 : i = 0 ∨ i = 1 ∨ i = 2 := (by omega); rcases h0 with rfl | rfl | rfl <;> rfl)) ?_ | ((first | ((first | refine atF (f := 139) ?_ | refine atQ (f := 139) ?_); (first | (refine cV (hac := length_ok r) (hK := ?_)) | (refine cQV (hac := length_ok r) (hK := ?_)))) | ((first | refine atF (f := 290) ?_ | refine atQ (f := 290) ?_); (first | (refine cV (hac := implGcd_ok o r.length (by omega)) (hK := ?_)) | (refine cQV (hac := implGcd_ok o r.length (by omega)) (hK := ?_))))); simp (maxSteps := 1000000) (dsimp := false) (implicitDefEqProofs := false) (disch := omega) only [wrap64, go_sem, ← er, e1, e2]) | apply_assumption -exfalso -symm)
  all_goals (first | (show endQ _ _ _ _ _ _ _; (repeat (rename (∀ (A : Fr) (H : Hp), AWP _ _ _ _ A H → _) => hK; clear hK)); (repeat (rename (Fr → Hp → Prop) => K; clear K))) | (show Exists _; (repeat (rename (∀ (A : Fr) (H : Hp), AWP _ _ _ _ A H → _) => hK; clear hK)); (repeat (rename (Fr → Hp → Prop) => K; clear K))) | skip)
  · exact ⟨k + 1, by omega, by omega, Sub.toL (by simp only [go_sem] <;> first | trivial | (simp only [Option.some.injEq, AV.v.injEq, AV.own.injEq, AV.list.injEq, Value.int.injEq, Value.bool.injEq, true_and, and_true]; first | omega | (simp [hs (by omega)]; done)) | (simp [hs (by omega)]; done) | (simp [hs (by omega)]; omega)) (by (repeat' (first | exact Hp.le_emp _ | exact Hp.le_refl _ | refine Hp.le_upd ?_ ?_)); all_goals (first | rfl | (simp only [go_sem]; first | rfl | (refine cellsE ?_ ?_ <;> (simp)) | (simp))))⟩
  · have e : k = (cycs p).length := by omega
    subst e
    rw [eo]
    refine end_retV' rfl rfl ?_
    rw [← Go.Pm.ord_cycs hp, show ((cycs p).map List.length).take (cycs p).length = (cycs p).map List.length from by rw [show (cycs p).length = ((cycs p).map List.length).length by rw [List.length_map], List.take_length]]
end Go.Proofs.Ytcfnbahpdlmcpaa
end
/- Runs made short, both texts. -/
section
namespace Go.Proofs.Ytcfnbahpdlmcpaa
open Go.Av
set_option linter.unusedSimpArgs false
set_option linter.unusedVariables false
attribute [local irreducible] AWP CallG Ob Br BrP Go.Av.Sub endQ AOps OpV AC thenA blkA opsVC opVC withA withArgs opsQ opQ CallQ withA2 withArgs2
open Go.Pm (Pm comp invp idn img ord)
open Go.Wd (sres lets sumS sgn absI shortR shortK short runs offs)
theorem tmod_sres {k d : Int} (hd : 0 < d) : k % d = if k.tmod d < 0 then k.tmod d + d else k.tmod d := by
  have h1 := Int.mul_tdiv_add_tmod k d
  have h2 := Int.tmod_lt_of_pos k hd
  have h3 : -d < k.tmod d := by
    have := Int.tmod_lt_of_pos (-k) hd
    rw [Int.neg_tmod] at this; omega
  have h4 : k % d = (k.tmod d) % d := by
    conv => lhs; rw [← h1]
    rw [Int.mul_add_emod_self_left]
  rw [h4]
  split
  · rw [← Int.add_emod_right]; exact Int.emod_eq_of_lt (by omega) (by omega)
  · exact Int.emod_eq_of_lt (by omega) h2
theorem smallestResidue_ok (k d : Int) (hk : -1000 ≤ k ∧ k ≤ 1000) (hd : 0 < d ∧ d ≤ 1000000000) : AC Try.prog 249 [.v (.int .i64 (k)), .v (.int .i64 (d))] Hp.emp (fun _ => false) (retV (.v (.int .i64 (sres k d)))) := by
  have e := tmod_sres (k := k) hd.1
  have h1 := Int.emod_nonneg k (by omega : d ≠ 0)
  have h2 := Int.emod_lt_of_pos k hd.1
  have h4 := Int.tmod_lt_of_pos k hd.1
  have h6 : -d < k.tmod d := by
    have := Int.tmod_lt_of_pos (-k) hd.1
    rw [Int.neg_tmod] at this; omega
  have h5 : sres k d = if 2 * (k % d) > d then k % d - d else k % d := rfl
  rw [e] at h5 h1 h2
  obtain ⟨t, et⟩ : ∃ t, t = k.tmod d := ⟨_, rfl⟩
  rw [← et] at h5 h1 h2 h4 h6
  have et' := et.symm
  refine ac_of_awp (N := ⟨_, fun _ => false, fun _ _ => rfl⟩) Try.func249 rfl (by kernel_rfl) Try.ntmps249 (by simp) ?_
  simp only [argsFr, List.zipIdx_cons, List.zipIdx_nil, go_sem]
  repeat' (first | refine awp_seqK fun K hK => ?_ | (refine awp_regionK 132147 rfl ?_; simp only [List.map_cons, List.map_nil]; simp (maxSteps := 1000000) (dsimp := false) (implicitDefEqProofs := false) (disch := omega) only [wrap64, go_sem, et']) | (refine awp_regionQK 132147 (by kernel_rfl) (by kernel_rfl) (by kernel_rfl) ?_; simp only [List.map_cons, List.map_nil]; simp (maxSteps := 1000000) (dsimp := false) (implicitDefEqProofs := false) (disch := omega) only [wrap64, go_sem, et']) | refine awp_block ?_ | (refine awp_skip ?_; simp only [go_sem, et']) | (refine awp_exit ?_; simp only [go_sem, et']) | (refine awp_ret ?_; try simp only [go_sem, et']) | (refine awp_condP rfl ?_; try simp only [go_sem, et']) | (refine BrP.mk (fun h => ?_) (fun h => ?_) <;> try simp (dsimp := false) (disch := omega) only [wrap64]) | (refine Br.mk (fun h => ?_) (fun h => ?_) <;> try simp (dsimp := false) (disch := omega) only [wrap64]) | refine Ob.mk (by first | omega | (intro _ _; rfl) | trivial | (intros; trivial) | assumption | (intro i hi; have h0 : i = 0 := (by omega); subst h0; first | rfl | trivial) | (intro i hi; have h0 : i = 0 ∨ i = 1 := (by omega); rcases h0 with rfl | rfl <;> rfl) | (intro i hi; have h0 : i = 0 ∨ i = 1 ∨ i = 2 := (by omega); rcases h0 with rfl | rfl | rfl <;> rfl)) ?_ | apply_assumption -exfalso -symm)
  all_goals (first | (show endQ _ _ _ _ _ _ _; (repeat (rename (∀ (A : Fr) (H : Hp), AWP _ _ _ _ A H → _) => hK; clear hK)); (repeat (rename (Fr → Hp → Prop) => K; clear K))) | (show Exists _; (repeat (rename (∀ (A : Fr) (H : Hp), AWP _ _ _ _ A H → _) => hK; clear hK)); (repeat (rename (Fr → Hp → Prop) => K; clear K))) | skip)
  all_goals (refine end_retN rfl rfl ?_; rw [h5]; split <;> split at * <;> omega)
theorem sliceRepeatI_ok (u : List Int) (x : Int) (hu : u.length ≤ 65535) (hk : 0 ≤ x ∧ x ≤ 65535) (ht : x.toNat * u.length ≤ 1048576) (d : Nat) : AC Try.prog 140 [ints u, .v (.int .i64 (x))] Hp.emp (fun _ => false) (retI d (rep u x.toNat)) := by
  have := sliceRepeat_ok u x.toNat hu (by omega) ht d
  rwa [show ((x.toNat : Nat) : Int) = x by omega] at this
theorem rep_lets (m : Int) (n : Nat) : rep [m] n = List.replicate n m := by
  induction n with
  | zero => simp [rep]
  | succ n ih => simp [rep, List.replicate_succ] at ih ⊢
theorem shortestRun_ok (m b o : Int) (hm : 1 ≤ m ∧ m ≤ 8) (hk : -1000 ≤ b ∧ b ≤ 1000) (hd : 0 < o ∧ o ≤ 1000000000) (d : Nat) : AC Try.prog 251 [.v (.int .i64 (m)), .v (.int .i64 (b)), .v (.int .i64 (o))] Hp.emp (fun _ => false) (retI d (lets m (sres b o))) := by
  have e := tmod_sres (k := b) hd.1
  have h1 := Int.emod_nonneg b (by omega : o ≠ 0)
  have h2 := Int.emod_lt_of_pos b hd.1
  have h4 := Int.tmod_lt_of_pos b hd.1
  have h6 : -o < b.tmod o := by
    have := Int.tmod_lt_of_pos (-b) hd.1
    rw [Int.neg_tmod] at this; omega
  have h5 : sres b o = if 2 * (b % o) > o then b % o - o else b % o := rfl
  have h7 := (Go.Wd.sres_ok (k := b) hd.1).1
  rw [e] at h5 h1 h2
  obtain ⟨t, et⟩ : ∃ t, t = b.tmod o := ⟨_, rfl⟩
  rw [← et] at h5 h1 h2 h4 h6
  have et' := et.symm
  obtain ⟨s, es⟩ : ∃ s, s = sres b o := ⟨_, rfl⟩
  rw [← es] at h5 h7 ⊢
  have h8 : (t < 0 → (o < 2 * (t + o) → s = t) ∧ (2 * (t + o) ≤ o → s = t + o)) ∧ (0 ≤ t → (o < 2 * t → s = t - o) ∧ (2 * t ≤ o → s = t)) := by
    rw [h5]
    refine ⟨fun h => ?_, fun h => ?_⟩
    · rw [if_pos h]; exact ⟨fun h => by rw [if_pos (by omega)]; omega, fun h => by rw [if_neg (by omega)]⟩
    · rw [if_neg (show ¬ t < 0 by omega)]; exact ⟨fun h => by rw [if_pos (by omega)], fun h => by rw [if_neg (by omega)]⟩
  clear h5
  refine ac_of_awp (N := ⟨_, fun _ => false, fun _ _ => rfl⟩) Try.func251 rfl (by kernel_rfl) Try.ntmps251 (by simp) ?_
  simp only [argsFr, List.zipIdx_cons, List.zipIdx_nil, go_sem]
  repeat' (first | refine awp_seqK fun K hK => ?_ | (refine awp_regionK 2105799 rfl ?_; simp only [List.map_cons, List.map_nil]; simp (maxSteps := 1000000) (dsimp := false) (implicitDefEqProofs := false) (disch := omega) only [wrap64, go_sem, et']) | (refine awp_regionQK 2105799 (by kernel_rfl) (by kernel_rfl) (by kernel_rfl) ?_; simp only [List.map_cons, List.map_nil]; simp (maxSteps := 1000000) (dsimp := false) (implicitDefEqProofs := false) (disch := omega) only [wrap64, go_sem, et']) | refine awp_block ?_ | (refine awp_skip ?_; simp only [go_sem, et']) | (refine awp_exit ?_; simp only [go_sem, et']) | (refine awp_ret ?_; try simp only [go_sem, et']) | (refine awp_condP rfl ?_; try simp only [go_sem, et']) | (refine BrP.mk (fun h => ?_) (fun h => ?_) <;> try simp (dsimp := false) (disch := omega) only [wrap64]) | (refine Br.mk (fun h => ?_) (fun h => ?_) <;> try simp (dsimp := false) (disch := omega) only [wrap64]) | refine Ob.mk (by first | omega | (intro _ _; rfl) | trivial | (intros; trivial) | assumption | (intro i hi; have h0 : i = 0 := (by omega); subst h0; first | rfl | trivial) | (intro i hi; have h0 : i = 0 ∨ i = 1 := (by omega); rcases h0 with rfl | rfl <;> rfl) | (intro i hi; have h0 : i = 0 ∨ i = 1 ∨ i = 2 := (by omega); rcases h0 with rfl | rfl | rfl <;> rfl)) ?_ | ((first | ((first | refine atF (f := 140) ?_ | refine atQ (f := 140) ?_); (first | refine cI (hac := sliceRepeatI_ok [m] (t + o) (by simp) (by omega) (by simp; omega) 50) (hK := ?_) | refine cI (hac := sliceRepeatI_ok [m] t (by simp) (by omega) (by simp; omega) 50) (hK := ?_) | refine cI (hac := sliceRepeatI_ok [0 - m] (o - (t + o)) (by simp) (by omega) (by simp; omega) 50) (hK := ?_) | refine cI (hac := sliceRepeatI_ok [0 - m] (o - t) (by simp) (by omega) (by simp; omega) 50) (hK := ?_)))); simp (maxSteps := 1000000) (dsimp := false) (implicitDefEqProofs := false) (disch := omega) only [wrap64, go_sem, et']) | apply_assumption -exfalso -symm)
  all_goals (first | (show endQ _ _ _ _ _ _ _; (repeat (rename (∀ (A : Fr) (H : Hp), AWP _ _ _ _ A H → _) => hK; clear hK)); (repeat (rename (Fr → Hp → Prop) => K; clear K))) | (show Exists _; (repeat (rename (∀ (A : Fr) (H : Hp), AWP _ _ _ _ A H → _) => hK; clear hK)); (repeat (rename (Fr → Hp → Prop) => K; clear K))) | skip)
  all_goals
    refine end_retI' rfl rfl rfl ?_ rfl rfl
    rw [rep_lets]
    unfold lets
    first
    | (rw [if_neg (show ¬ 0 ≤ s by omega)]; congr 1 <;> omega)
    | (rw [if_pos (show 0 ≤ s by omega)]; congr 1; omega)
end Go.Proofs.Ytcfnbahpdlmcpaa
end
/- One round of shortening, the reference's text. -/
section
namespace Go.Proofs.Ytcfnbahpdlmcpaa
open Go.Av
set_option linter.unusedSimpArgs false
set_option linter.unusedVariables false
attribute [local irreducible] AWP CallG Ob Br BrP Go.Av.Sub endQ AOps OpV AC thenA blkA opsVC opVC withA withArgs opsQ opQ CallQ withA2 withArgs2
open Go.Pm (Pm comp invp idn img ord)
open Go.Wd (sres lets sumS sgn absI shortR shortK short runs offs smp SW)
/-- The order of a move. -/
def odP (p : Pz) (a : Int) : Int := (ord (p.m.getD (a - 1).toNat []) : Nat)
theorem odP_ok {p : Pz} (h : isPz p) {a : Int} (ha : 1 ≤ a ∧ a ≤ p.m.length) : isPerm (p.m.getD (a - 1).toNat []) ∧ 0 < odP p a ∧ odP p a ≤ 232792560 := by
  have h1 := (h.1.2.2 (a - 1).toNat (by omega)).2
  refine ⟨h1, ?_⟩
  have h2 := (isPerm_pm _).1 h1
  have := Go.Pm.ord_20 h2.2 h2.1.2
  unfold odP; omega
theorem mv_ok {x a : Int} (h : absI x = a) (hx : x ≠ 0) : (x = a ∨ x = 0 - a) ∧ x.tdiv a = sgn x ∧ 0 < a := by
  have h0 : 0 < a := by unfold absI at h; omega
  have h1 : x = a ∨ x = 0 - a := by unfold absI at h; omega
  refine ⟨h1, ?_, h0⟩
  rcases h1 with rfl | rfl
  · rw [Int.tdiv_self (by omega)]; unfold sgn; rw [if_neg (by omega)]
  · rw [Int.zero_sub, Int.neg_tdiv, Int.tdiv_self (by omega)]; unfold sgn; rw [if_pos (by omega)]
theorem odP_all {p : Pz} {w : List Int} (hp : isPz p) (hw : isW p.m.length w) : ∀ x ∈ w, 0 < odP p (absI x) := fun x hx => by
  obtain ⟨j, hj, rfl⟩ := mem_getD.1 hx
  have := hw.2 j hj
  refine (odP_ok hp ?_).2.1
  unfold isL at this; unfold absI; omega
theorem sgn_in (x : Int) : -1 ≤ sgn x ∧ sgn x ≤ 1 := by unfold sgn; split <;> omega
theorem isW_wide' {m : Int} {w : List Int} (h : isW m w) : isW 8 w := ⟨h.1, fun j hj => by have := h.2 j hj; unfold isL at *; omega⟩
set_option maxHeartbeats 8000000 in
theorem specSimplifyRuns_ok (p : Pz) (w : List Int) (hp : isPz p) (hw : isW p.m.length w) (d : Nat) : AC Try.prog 156 [pz p, ints w] Hp.emp (fun _ => false) (retI d (short (odP p) w)) := by
  have hwl := hw.1
  have hz := hp.1.2.1
  have hRf := Go.Wd.runs_flat absI w
  obtain ⟨R, eR⟩ : ∃ R, R = runs absI w := ⟨_, rfl⟩
  have hsl : ∀ j, (shortK (odP p) w j).length ≤ (shortK (odP p) w j).length := fun _ => Nat.le_refl _
  refine ac_of_awp (N := ⟨_, fun _ => false, fun _ _ => rfl⟩) Try.func156 rfl (by kernel_rfl) Try.ntmps156 (by simp) ?_
  simp only [argsFr, List.zipIdx_cons, List.zipIdx_nil, go_sem]
  repeat' (first | refine awp_seqK fun K hK => ?_ | (refine awp_regionK 18963252942957791167479 rfl ?_; simp only [List.map_cons, List.map_nil]; simp (maxSteps := 1000000) (dsimp := false) (implicitDefEqProofs := false) (disch := omega) only [wrap64, go_sem]) | (refine awp_regionQK 18963252942957791167479 (by kernel_rfl) (by kernel_rfl) (by kernel_rfl) ?_; simp only [List.map_cons, List.map_nil]; simp (maxSteps := 1000000) (dsimp := false) (implicitDefEqProofs := false) (disch := omega) only [wrap64, go_sem]) | refine awp_block ?_ | (refine awp_skip ?_; simp only [go_sem]) | (refine awp_exit ?_; simp only [go_sem]) | (refine awp_ret ?_; try simp only [go_sem]) | (refine awp_condP rfl ?_; try simp only [go_sem]) | (refine BrP.mk (fun h => ?_) (fun h => ?_) <;> try simp (dsimp := false) (disch := omega) only [wrap64]) | (refine Br.mk (fun h => ?_) (fun h => ?_) <;> try simp (dsimp := false) (disch := omega) only [wrap64]) | refine Ob.mk (by first | omega | (intro _ _; rfl) | trivial | (intros; trivial) | assumption | (intro i hi; have h0 : i = 0 := (by omega); subst h0; first | rfl | trivial) | (intro i hi; have h0 : i = 0 ∨ i = 1 := (by omega); rcases h0 with rfl | rfl <;> rfl) | (intro i hi; have h0 : i = 0 ∨ i = 1 ∨ i = 2 := (by omega); rcases h0 with rfl | rfl | rfl <;> rfl)) ?_ | apply_assumption -exfalso -symm)
  all_goals (first | (show endQ _ _ _ _ _ _ _; (repeat (rename (∀ (A : Fr) (H : Hp), AWP _ _ _ _ A H → _) => hK; clear hK)); (repeat (rename (Fr → Hp → Prop) => K; clear K))) | (show Exists _; (repeat (rename (∀ (A : Fr) (H : Hp), AWP _ _ _ _ A H → _) => hK; clear hK)); (repeat (rename (Fr → Hp → Prop) => K; clear K))) | skip)
  refine awp_loop (ι := Nat) (fun j => [(6, .v (.int .i64 ((offs (runs absI w) j : Nat)))), (5, .own 10 0 1 (shortK (odP p) w j).length), (2, .ref 2 0), (1, .list false 1 (w).length (cM iv 0 (w)))]) (fun j => (Hp.emp.upd 2 (.cells 3 (vecF [.v (.int .i64 p.n), .v (.string p.s), .list false 1 (p.m).length (cM ints [] (p.m))]))).upd 10 (.cells (shortK (odP p) w j).length (cM iv 0 (shortK (odP p) w j)))) (fun j => j ≤ (runs absI w).length) (fun j => (runs absI w).length - j) 0 (Nat.zero_le _) (Sub.toL (by simp only [go_sem] <;> first | trivial | (simp only [Option.some.injEq, AV.v.injEq, AV.own.injEq, AV.list.injEq, Value.int.injEq, Value.bool.injEq, true_and, and_true]; first | omega | (simp [offs, shortK]; done)) | (simp [offs, shortK]; done) | (simp [offs, shortK]; omega)) (by (repeat' (first | exact Hp.le_emp _ | exact Hp.le_refl _ | refine Hp.le_upd ?_ ?_)); all_goals (first | rfl | (simp only [go_sem]; first | rfl | (refine cellsE ?_ ?_ <;> (simp [shortK])) | (simp [shortK]))))) ?_
  intro j hj
  have hmon : j < (runs absI w).length → offs (runs absI w) j < w.length := fun h => Go.Wd.offs_mono h
  have hall : j = (runs absI w).length → offs (runs absI w) j = w.length := fun h => by rw [h, Go.Wd.offs_all, hRf]
  have hb0 := isW_bd (isW_wide' hw) (offs (runs absI w) j)
  obtain ⟨t, et⟩ : ∃ t, t = offs (runs absI w) j := ⟨_, rfl⟩
  rw [← et] at hmon hall hb0 ⊢
  repeat' (first | refine awp_seqK fun K hK => ?_ | (refine awp_regionK 18963252942957791167479 rfl ?_; simp only [List.map_cons, List.map_nil]; simp (maxSteps := 1000000) (dsimp := false) (implicitDefEqProofs := false) (disch := omega) only [wrap64, go_sem]) | (refine awp_regionQK 18963252942957791167479 (by kernel_rfl) (by kernel_rfl) (by kernel_rfl) ?_; simp only [List.map_cons, List.map_nil]; simp (maxSteps := 1000000) (dsimp := false) (implicitDefEqProofs := false) (disch := omega) only [wrap64, go_sem]) | refine awp_block ?_ | (refine awp_skip ?_; simp only [go_sem]) | (refine awp_exit ?_; simp only [go_sem]) | (refine awp_ret ?_; try simp only [go_sem]) | (refine awp_condP rfl ?_; try simp only [go_sem]) | (refine BrP.mk (fun h => ?_) (fun h => ?_) <;> try simp (dsimp := false) (disch := omega) only [wrap64]) | (refine Br.mk (fun h => ?_) (fun h => ?_) <;> try simp (dsimp := false) (disch := omega) only [wrap64]) | refine Ob.mk (by first | omega | (intro _ _; rfl) | trivial | (intros; trivial) | assumption | (intro i hi; have h0 : i = 0 := (by omega); subst h0; first | rfl | trivial) | (intro i hi; have h0 : i = 0 ∨ i = 1 := (by omega); rcases h0 with rfl | rfl <;> rfl) | (intro i hi; have h0 : i = 0 ∨ i = 1 ∨ i = 2 := (by omega); rcases h0 with rfl | rfl | rfl <;> rfl)) ?_ | apply_assumption -exfalso -symm)
  all_goals (first | (show endQ _ _ _ _ _ _ _; (repeat (rename (∀ (A : Fr) (H : Hp), AWP _ _ _ _ A H → _) => hK; clear hK)); (repeat (rename (Fr → Hp → Prop) => K; clear K))) | (show Exists _; (repeat (rename (∀ (A : Fr) (H : Hp), AWP _ _ _ _ A H → _) => hK; clear hK)); (repeat (rename (Fr → Hp → Prop) => K; clear K))) | skip)
  · have hjl : j < (runs absI w).length := by
      rcases Nat.lt_or_ge j (runs absI w).length with h | h
      · exact h
      · have := hall (by omega); omega
    obtain ⟨q1, q2, q3⟩ := Go.Wd.run_end hjl
    have q4 := Go.Wd.offs_succ hjl
    have q5 := Go.Wd.offs_le hjl
    have q6 := Go.Wd.shortK_succ (odP p) w hjl
    rw [hRf] at q5
    obtain ⟨r, er⟩ : ∃ r, r = (runs absI w).getD j [] := ⟨_, rfl⟩
    rw [← er] at q1 q3 q4 q5 q6
    rw [← et] at q1 q2 q4 q5
    have ha0 : absI (w.getD t 0) = absI (r.getD 0 0) := by have := (q1 0 q3).2.1; rw [Nat.add_zero] at this; rw [this]
    have hx0 := hw.2 t (by omega)
    obtain ⟨a, ea⟩ : ∃ a, a = absI (w.getD t 0) := ⟨_, rfl⟩
    have em : max (w.getD t 0) (0 - w.getD t 0) = a := by rw [ea]; unfold absI; omega
    have ha : 1 ≤ a ∧ a ≤ p.m.length := by rw [ea]; unfold isL at hx0; unfold absI; omega
    rw [em]
    rw [← ea] at q1 q2 ha0
    obtain ⟨hpm, ho1, ho2⟩ := odP_ok hp ha
    have q6' : shortK (odP p) w (j + 1) = shortK (odP p) w j ++ lets a (sres (sumS r) (odP p a)) := by rw [q6]; unfold shortR; rw [← ha0]
    obtain ⟨base, eb⟩ : ∃ base, base = shortK (odP p) w j := ⟨_, rfl⟩
    have hbl : base.length ≤ 200 := by
      have := Go.Wd.shortK_len (od := odP p) (w := w) (odP_all hp hw) j hj
      rw [← et, ← eb] at this; omega
    rw [← eb] at q6' ⊢
    have hrl : r.length ≤ 200 := by omega
    refine awp_loop (ι := Nat) (fun i => [(6, .v (.int .i64 ((t + i : Nat)))), (8, .v (.int .i64 (sumS (r.take i)))), (7, .v (.int .i64 (a))), (5, .own 10 0 1 base.length), (2, .ref 2 0), (1, .list false 1 (w).length (cM iv 0 (w)))]) (fun i => (Hp.emp.upd 2 (.cells 3 (vecF [.v (.int .i64 p.n), .v (.string p.s), .list false 1 (p.m).length (cM ints [] (p.m))]))).upd 10 (.cells base.length (cM iv 0 base))) (fun i => i ≤ r.length) (fun i => r.length - i) 0 (Nat.zero_le _) (Sub.toL (by simp only [go_sem] <;> first | trivial | (simp only [Option.some.injEq, AV.v.injEq, AV.own.injEq, AV.list.injEq, Value.int.injEq, Value.bool.injEq, true_and, and_true]; first | omega | (simp [sumS]; done)) | (simp [sumS]; done) | (simp [sumS]; omega)) (by (repeat' (first | exact Hp.le_emp _ | exact Hp.le_refl _ | refine Hp.le_upd ?_ ?_)); all_goals (first | rfl | (simp only [go_sem]; first | rfl | (refine cellsE ?_ ?_ <;> (simp)) | (simp))))) ?_
    intro i hi
    have hsb := Go.Wd.sumS_bd r i
    have hin : i < r.length → t + i < w.length ∧ (w.getD (t + i) 0 = a ∨ w.getD (t + i) 0 = 0 - a) ∧ (w.getD (t + i) 0).tdiv a = sgn (w.getD (t + i) 0) ∧ sumS (r.take (i + 1)) = sumS (r.take i) + sgn (w.getD (t + i) 0) := fun h => by
      obtain ⟨k1, k2, k3⟩ := q1 i h
      have hx := hw.2 (t + i) k1
      have := mv_ok (x := w.getD (t + i) 0) (a := a) k3 hx.1
      exact ⟨k1, this.1, this.2.1, by rw [Go.Wd.sumS_take h, k2]⟩
    have hout : Hold (i = r.length → t + i < w.length → w.getD (t + i) 0 ≠ a ∧ w.getD (t + i) 0 ≠ 0 - a) := ⟨fun h hlt => by
      have hx := hw.2 (t + i) hlt
      have := q2 (by rw [q4, ← h]; exact hlt)
      rw [q4, ← h] at this
      refine ⟨fun e => this ?_, fun e => this ?_⟩
      · rw [e]; unfold absI; omega
      · rw [e]; unfold absI; omega⟩
    have hxb := isW_bd (isW_wide' hw) (t + i)
    have hsg := sgn_in (w.getD (t + i) 0)
    obtain ⟨x, ex⟩ : ∃ x, x = w.getD (t + i) 0 := ⟨_, rfl⟩
    rw [← ex] at hin hout hxb hsg
    obtain ⟨u, eu⟩ : ∃ u, u = sumS (r.take i) := ⟨_, rfl⟩
    rw [← eu] at hsb hin ⊢
    obtain ⟨v, ev⟩ : ∃ v, v = t + i := ⟨_, rfl⟩
    rw [← ev] at hin hout ex ⊢
    have ex' := ex.symm
    have htd : (x = a ∨ x = 0 - a) → x.tdiv a = sgn x := fun h => by
      have hx0 : x ≠ 0 := by omega
      exact (mv_ok (x := x) (a := a) (by unfold absI; omega) hx0).2.1
    repeat' (first | refine awp_seqK fun K hK => ?_ | (refine awp_regionK 18963252942957791167479 rfl ?_; simp only [List.map_cons, List.map_nil]; simp (maxSteps := 1000000) (dsimp := false) (implicitDefEqProofs := false) (disch := omega) only [wrap64, go_sem, ex']) | (refine awp_regionQK 18963252942957791167479 (by kernel_rfl) (by kernel_rfl) (by kernel_rfl) ?_; simp only [List.map_cons, List.map_nil]; simp (maxSteps := 1000000) (dsimp := false) (implicitDefEqProofs := false) (disch := omega) only [wrap64, go_sem, ex']) | refine awp_block ?_ | (refine awp_skip ?_; simp only [go_sem, ex']) | (refine awp_exit ?_; simp only [go_sem, ex']) | (refine awp_ret ?_; try simp only [go_sem, ex']) | (refine awp_condP rfl ?_; try simp only [go_sem, ex']) | (refine BrP.mk (fun h => ?_) (fun h => ?_) <;> try simp (dsimp := false) (disch := omega) only [wrap64]) | (refine Br.mk (fun h => ?_) (fun h => ?_) <;> try simp (dsimp := false) (disch := omega) only [wrap64]) | refine Ob.mk (by first | omega | (intro _ _; rfl) | trivial | (intros; trivial) | assumption | (intro i hi; have h0 : i = 0 := (by omega); subst h0; first | rfl | trivial) | (intro i hi; have h0 : i = 0 ∨ i = 1 := (by omega); rcases h0 with rfl | rfl <;> rfl) | (intro i hi; have h0 : i = 0 ∨ i = 1 ∨ i = 2 := (by omega); rcases h0 with rfl | rfl | rfl <;> rfl)) ?_ | ((first | ((first | refine atF (f := 250) ?_ | refine atQ (f := 250) ?_); (first | (refine cV (hac := specElementOrder_ok (p.m.getD (a - 1).toNat []) hpm) (hK := ?_)) | (refine cQV (hac := specElementOrder_ok (p.m.getD (a - 1).toNat []) hpm) (hK := ?_)))) | ((first | refine atF (f := 249) ?_ | refine atQ (f := 249) ?_); (first | (refine cV (hac := smallestResidue_ok u (odP p a) (by omega) (by omega)) (hK := ?_)) | (refine cQV (hac := smallestResidue_ok u (odP p a) (by omega) (by omega)) (hK := ?_))))); simp (maxSteps := 1000000) (dsimp := false) (implicitDefEqProofs := false) (disch := omega) only [wrap64, go_sem, ex']) | apply_assumption -exfalso -symm)
    all_goals (first | (show endQ _ _ _ _ _ _ _; (repeat (rename (∀ (A : Fr) (H : Hp), AWP _ _ _ _ A H → _) => hK; clear hK)); (repeat (rename (Fr → Hp → Prop) => K; clear K))) | (show Exists _; (repeat (rename (∀ (A : Fr) (H : Hp), AWP _ _ _ _ A H → _) => hK; clear hK)); (repeat (rename (Fr → Hp → Prop) => K; clear K))) | skip)
    · have hlt : i < r.length := by
        rcases Nat.lt_or_ge i r.length with h | h
        · exact h
        · have := hout.h (by omega) (by omega); omega
      obtain ⟨k1, k2, k3, k4⟩ := hin hlt
      exact ⟨i + 1, by omega, by omega, Sub.toL (by simp only [go_sem] <;> first | trivial | (simp only [Option.some.injEq, AV.v.injEq, AV.own.injEq, AV.list.injEq, Value.int.injEq, Value.bool.injEq, true_and, and_true]; first | omega | (simp [k4, k3, ev]; done)) | (simp [k4, k3, ev]; done) | (simp [k4, k3, ev]; omega)) (by (repeat' (first | exact Hp.le_emp _ | exact Hp.le_refl _ | refine Hp.le_upd ?_ ?_)); all_goals (first | rfl | (simp only [go_sem]; first | rfl | (refine cellsE ?_ ?_ <;> (simp)) | (simp))))⟩
    · have hlt : i < r.length := by
        rcases Nat.lt_or_ge i r.length with h | h
        · exact h
        · have := hout.h (by omega) (by omega); omega
      obtain ⟨k1, k2, k3, k4⟩ := hin hlt
      exact ⟨i + 1, by omega, by omega, Sub.toL (by simp only [go_sem] <;> first | trivial | (simp only [Option.some.injEq, AV.v.injEq, AV.own.injEq, AV.list.injEq, Value.int.injEq, Value.bool.injEq, true_and, and_true]; first | omega | (simp [k4, k3, ev]; done)) | (simp [k4, k3, ev]; done) | (simp [k4, k3, ev]; omega)) (by (repeat' (first | exact Hp.le_emp _ | exact Hp.le_refl _ | refine Hp.le_upd ?_ ?_)); all_goals (first | rfl | (simp only [go_sem]; first | rfl | (refine cellsE ?_ ?_ <;> (simp)) | (simp))))⟩
    all_goals
      have hir : i = r.length := by
        rcases Nat.lt_or_ge i r.length with h | h
        · have := hin h; omega
        · omega
      have hN0 := (Go.Wd.sres_ok (k := u) (d := odP p a) (by omega)).1
      have eu2 : u = sumS r := by rw [eu, hir, List.take_length]
      obtain ⟨N, eN⟩ : ∃ N, N = sres u (odP p a) := ⟨_, rfl⟩
      rw [← eN] at hN0 ⊢
      have q7 : shortK (odP p) w (j + 1) = base ++ List.replicate N.toNat a ++ List.replicate (-N).toNat (0 - a) := by
        rw [q6', ← eu2, ← eN, Go.Wd.lets_split, Int.zero_sub, List.append_assoc]
      have q8 : offs (runs absI w) (j + 1) = v := by rw [q4, ev, hir]
      clear hin hout htd ex' ex
      refine awp_loop (ι := Nat) (fun k => [(9, .v (.int .i64 (N - (k : Nat)))), (7, .v (.int .i64 (a))), (6, .v (.int .i64 ((v : Nat)))), (5, .own 10 0 1 (base.length + k)), (2, .ref 2 0), (1, .list false 1 (w).length (cM iv 0 (w)))]) (fun k => (Hp.emp.upd 2 (.cells 3 (vecF [.v (.int .i64 p.n), .v (.string p.s), .list false 1 (p.m).length (cM ints [] (p.m))]))).upd 10 (.cells (base.length + k) (cM iv 0 (base ++ List.replicate k a)))) (fun k => k ≤ N.toNat) (fun k => N.toNat - k) 0 (Nat.zero_le _) (Sub.toL (by simp only [go_sem] <;> first | trivial | (simp only [Option.some.injEq, AV.v.injEq, AV.own.injEq, AV.list.injEq, Value.int.injEq, Value.bool.injEq, true_and, and_true]; first | omega | (simp; done)) | (simp; done) | (simp; omega)) (by (repeat' (first | exact Hp.le_emp _ | exact Hp.le_refl _ | refine Hp.le_upd ?_ ?_)); all_goals (first | rfl | (simp only [go_sem]; first | rfl | (refine cellsE ?_ ?_ <;> (simp)) | (simp))))) ?_
      intro k hk
      have h1 : (base ++ List.replicate k a).length = base.length + k := by rw [List.length_append, List.length_replicate]
      have hap := apF_cM iv 0 (base ++ List.replicate k a) [a]
      rw [h1, List.append_assoc, ← List.replicate_succ'] at hap
      repeat' (first | refine awp_seqK fun K hK => ?_ | (refine awp_regionK 18963252942957791167479 rfl ?_; simp only [List.map_cons, List.map_nil]; simp (maxSteps := 1000000) (dsimp := false) (implicitDefEqProofs := false) (disch := omega) only [wrap64, go_sem]) | (refine awp_regionQK 18963252942957791167479 (by kernel_rfl) (by kernel_rfl) (by kernel_rfl) ?_; simp only [List.map_cons, List.map_nil]; simp (maxSteps := 1000000) (dsimp := false) (implicitDefEqProofs := false) (disch := omega) only [wrap64, go_sem]) | refine awp_block ?_ | (refine awp_skip ?_; simp only [go_sem]) | (refine awp_exit ?_; simp only [go_sem]) | (refine awp_ret ?_; try simp only [go_sem]) | (refine awp_condP rfl ?_; try simp only [go_sem]) | (refine BrP.mk (fun h => ?_) (fun h => ?_) <;> try simp (dsimp := false) (disch := omega) only [wrap64]) | (refine Br.mk (fun h => ?_) (fun h => ?_) <;> try simp (dsimp := false) (disch := omega) only [wrap64]) | refine Ob.mk (by first | omega | (intro _ _; rfl) | trivial | (intros; trivial) | assumption | (intro i hi; have h0 : i = 0 := (by omega); subst h0; first | rfl | trivial) | (intro i hi; have h0 : i = 0 ∨ i = 1 := (by omega); rcases h0 with rfl | rfl <;> rfl) | (intro i hi; have h0 : i = 0 ∨ i = 1 ∨ i = 2 := (by omega); rcases h0 with rfl | rfl | rfl <;> rfl)) ?_ | apply_assumption -exfalso -symm)
      all_goals (first | (show endQ _ _ _ _ _ _ _; (repeat (rename (∀ (A : Fr) (H : Hp), AWP _ _ _ _ A H → _) => hK; clear hK)); (repeat (rename (Fr → Hp → Prop) => K; clear K))) | (show Exists _; (repeat (rename (∀ (A : Fr) (H : Hp), AWP _ _ _ _ A H → _) => hK; clear hK)); (repeat (rename (Fr → Hp → Prop) => K; clear K))) | skip)
      · exact ⟨k + 1, by omega, by omega, Sub.toL (by simp only [go_sem] <;> first | trivial | (simp only [Option.some.injEq, AV.v.injEq, AV.own.injEq, AV.list.injEq, Value.int.injEq, Value.bool.injEq, true_and, and_true]; first | omega | (simp; done)) | (simp; done) | (simp; omega)) (by (repeat' (first | exact Hp.le_emp _ | exact Hp.le_refl _ | refine Hp.le_upd ?_ ?_)); all_goals (first | rfl | (simp only [go_sem]; first | rfl | (refine cellsE ?_ ?_ <;> (simp [hap, Nat.add_assoc])) | (simp [hap, Nat.add_assoc]))))⟩
      have hk2 : k = N.toNat := by omega
      obtain ⟨b2, eb2⟩ : ∃ b2, b2 = base ++ List.replicate N.toNat a := ⟨_, rfl⟩
      rw [← eb2] at q7
      rw [hk2, ← eb2] at h1 ⊢
      refine awp_loop (ι := Nat) (fun k => [(9, .v (.int .i64 (min N 0 + (k : Nat)))), (7, .v (.int .i64 (a))), (6, .v (.int .i64 ((v : Nat)))), (5, .own 10 0 1 (b2.length + k)), (2, .ref 2 0), (1, .list false 1 (w).length (cM iv 0 (w)))]) (fun k => (Hp.emp.upd 2 (.cells 3 (vecF [.v (.int .i64 p.n), .v (.string p.s), .list false 1 (p.m).length (cM ints [] (p.m))]))).upd 10 (.cells (b2.length + k) (cM iv 0 (b2 ++ List.replicate k (0 - a))))) (fun k => k ≤ (-N).toNat) (fun k => (-N).toNat - k) 0 (Nat.zero_le _) (Sub.toL (by simp only [go_sem] <;> first | trivial | (simp only [Option.some.injEq, AV.v.injEq, AV.own.injEq, AV.list.injEq, Value.int.injEq, Value.bool.injEq, true_and, and_true]; first | omega | (simp [h1]; done)) | (simp [h1]; done) | (simp [h1]; omega)) (by (repeat' (first | exact Hp.le_emp _ | exact Hp.le_refl _ | refine Hp.le_upd ?_ ?_)); all_goals (first | rfl | (simp only [go_sem]; first | rfl | (refine cellsE ?_ ?_ <;> (simp [h1])) | (simp [h1]))))) ?_
      intro k2 hk3
      have h3 : (b2 ++ List.replicate k2 (0 - a)).length = b2.length + k2 := by rw [List.length_append, List.length_replicate]
      have hap2 := apF_cM iv 0 (b2 ++ List.replicate k2 (0 - a)) [0 - a]
      rw [h3, List.append_assoc, ← List.replicate_succ'] at hap2
      have hap3 := hap2
      rw [Int.zero_sub] at hap3
      repeat' (first | refine awp_seqK fun K hK => ?_ | (refine awp_regionK 18963252942957791167479 rfl ?_; simp only [List.map_cons, List.map_nil]; simp (maxSteps := 1000000) (dsimp := false) (implicitDefEqProofs := false) (disch := omega) only [wrap64, go_sem]) | (refine awp_regionQK 18963252942957791167479 (by kernel_rfl) (by kernel_rfl) (by kernel_rfl) ?_; simp only [List.map_cons, List.map_nil]; simp (maxSteps := 1000000) (dsimp := false) (implicitDefEqProofs := false) (disch := omega) only [wrap64, go_sem]) | refine awp_block ?_ | (refine awp_skip ?_; simp only [go_sem]) | (refine awp_exit ?_; simp only [go_sem]) | (refine awp_ret ?_; try simp only [go_sem]) | (refine awp_condP rfl ?_; try simp only [go_sem]) | (refine BrP.mk (fun h => ?_) (fun h => ?_) <;> try simp (dsimp := false) (disch := omega) only [wrap64]) | (refine Br.mk (fun h => ?_) (fun h => ?_) <;> try simp (dsimp := false) (disch := omega) only [wrap64]) | refine Ob.mk (by first | omega | (intro _ _; rfl) | trivial | (intros; trivial) | assumption | (intro i hi; have h0 : i = 0 := (by omega); subst h0; first | rfl | trivial) | (intro i hi; have h0 : i = 0 ∨ i = 1 := (by omega); rcases h0 with rfl | rfl <;> rfl) | (intro i hi; have h0 : i = 0 ∨ i = 1 ∨ i = 2 := (by omega); rcases h0 with rfl | rfl | rfl <;> rfl)) ?_ | apply_assumption -exfalso -symm)
      all_goals (first | (show endQ _ _ _ _ _ _ _; (repeat (rename (∀ (A : Fr) (H : Hp), AWP _ _ _ _ A H → _) => hK; clear hK)); (repeat (rename (Fr → Hp → Prop) => K; clear K))) | (show Exists _; (repeat (rename (∀ (A : Fr) (H : Hp), AWP _ _ _ _ A H → _) => hK; clear hK)); (repeat (rename (Fr → Hp → Prop) => K; clear K))) | skip)
      · exact ⟨k2 + 1, by omega, by omega, Sub.toL (by simp only [go_sem] <;> first | trivial | (simp only [Option.some.injEq, AV.v.injEq, AV.own.injEq, AV.list.injEq, Value.int.injEq, Value.bool.injEq, true_and, and_true]; first | omega | (simp; done)) | (simp; done) | (simp; omega)) (by (repeat' (first | exact Hp.le_emp _ | exact Hp.le_refl _ | refine Hp.le_upd ?_ ?_)); all_goals (first | rfl | (simp only [go_sem]; first | rfl | (refine cellsE ?_ ?_ <;> (simp [hap3, Nat.add_assoc])) | (simp [hap3, Nat.add_assoc]))))⟩
      have hk4 : k2 = (-N).toNat := by omega
      rw [hk4] at h3 ⊢
      rw [← q7] at h3 ⊢
      exact ⟨j + 1, by omega, by omega, Sub.toL (by simp only [go_sem] <;> first | trivial | (simp only [Option.some.injEq, AV.v.injEq, AV.own.injEq, AV.list.injEq, Value.int.injEq, Value.bool.injEq, true_and, and_true]; first | omega | (simp [q8, h3]; done)) | (simp [q8, h3]; done) | (simp [q8, h3]; omega)) (by (repeat' (first | exact Hp.le_emp _ | exact Hp.le_refl _ | refine Hp.le_upd ?_ ?_)); all_goals (first | rfl | (simp only [go_sem]; first | rfl | (refine cellsE ?_ ?_ <;> (simp [h3])) | (simp [h3]))))⟩
  · have e : j = (runs absI w).length := by omega
    subst e
    rw [Go.Wd.shortK_all]
    exact end_retI' rfl rfl rfl rfl rfl rfl
end Go.Proofs.Ytcfnbahpdlmcpaa
end
/- SimplifyWord, both texts. -/
section
namespace Go.Proofs.Ytcfnbahpdlmcpaa
open Go.Av
set_option linter.unusedSimpArgs false
set_option linter.unusedVariables false
attribute [local irreducible] AWP CallG Ob Br BrP Go.Av.Sub endQ AOps OpV AC thenA blkA opsVC opVC withA withArgs opsQ opQ CallQ withA2 withArgs2
open Go.Pm (Pm comp invp idn img ord)
open Go.Wd (sres lets sumS sgn absI shortR shortK short runs offs smp SW mu)
/-- What SimplifyWord answers. -/
def simW (p : Pz) (w : List Int) : List Int := if isPz p ∧ isW p.m.length w then smp (odP p) w else []
theorem sw_of {p : Pz} {w : List Int} (hp : isPz p) (hw : isW p.m.length w) : SW (odP p) w :=
  ⟨fun x hx => by
    obtain ⟨j, hj, rfl⟩ := mem_getD.1 hx
    exact (hw.2 j hj).1, odP_all hp hw, hw.1⟩
theorem isW_short {p : Pz} {w : List Int} (hp : isPz p) (hw : isW p.m.length w) : isW p.m.length (short (odP p) w) := ⟨(sw_of hp hw).short.1.len, fun j hj => by
  obtain ⟨y, hy, e, h0⟩ := Go.Wd.mem_short (sw_of hp hw).nz (mem_getD.2 ⟨j, hj, rfl⟩)
  obtain ⟨i, hi, rfl⟩ := mem_getD.1 hy
  have := hw.2 i hi
  unfold absI at e
  unfold isL at this ⊢
  omega⟩
theorem simW_len (p : Pz) (w : List Int) : (simW p w).length ≤ 200 := by
  unfold simW
  split
  · rename_i h; exact Go.Wd.smp_len _ _ (sw_of h.1 h.2)
  · simp
set_option maxHeartbeats 8000000 in
theorem specSimplifyWord_ok (p : Pz) (w : List Int) (hwl : w.length ≤ 1048576) : AC Try.prog 46 [pz p, ints w] Hp.emp (fun _ => false) (retV (ints (simW p w))) := by
  refine ac_of_awp (N := ⟨_, fun _ => false, fun _ _ => rfl⟩) Try.func46 rfl (by kernel_rfl) Try.ntmps46 (by simp) ?_
  simp only [argsFr, List.zipIdx_cons, List.zipIdx_nil, go_sem]
  repeat' (first | refine awp_seqK fun K hK => ?_ | (refine awp_regionK 67240055 rfl ?_; simp only [List.map_cons, List.map_nil]; simp (maxSteps := 1000000) (dsimp := false) (implicitDefEqProofs := false) (disch := omega) only [wrap64, go_sem]) | (refine awp_regionQK 67240055 (by kernel_rfl) (by kernel_rfl) (by kernel_rfl) ?_; simp only [List.map_cons, List.map_nil]; simp (maxSteps := 1000000) (dsimp := false) (implicitDefEqProofs := false) (disch := omega) only [wrap64, go_sem]) | refine awp_block ?_ | (refine awp_skip ?_; simp only [go_sem]) | (refine awp_exit ?_; simp only [go_sem]) | (refine awp_ret ?_; try simp only [go_sem]) | (refine awp_condP rfl ?_; try simp only [go_sem]) | (refine BrP.mk (fun h => ?_) (fun h => ?_) <;> try simp (dsimp := false) (disch := omega) only [wrap64]) | (refine Br.mk (fun h => ?_) (fun h => ?_) <;> try simp (dsimp := false) (disch := omega) only [wrap64]) | refine Ob.mk (by first | omega | (intro _ _; rfl) | trivial | (intros; trivial) | assumption | (intro i hi; have h0 : i = 0 := (by omega); subst h0; first | rfl | trivial) | (intro i hi; have h0 : i = 0 ∨ i = 1 := (by omega); rcases h0 with rfl | rfl <;> rfl) | (intro i hi; have h0 : i = 0 ∨ i = 1 ∨ i = 2 := (by omega); rcases h0 with rfl | rfl | rfl <;> rfl)) ?_ | ((first | ((first | refine atF (f := 154) ?_ | refine atQ (f := 154) ?_); (first | (refine cV (hac := specIsValidPuzzle_ok p) (hK := ?_)) | (refine cQV (hac := specIsValidPuzzle_ok p) (hK := ?_)))) | ((first | refine atF (f := 25) ?_ | refine atQ (f := 25) ?_); (first | (refine cV (hac := specIsValidWord_ok (p.m.length : Int) w) (hK := ?_)) | (refine cQV (hac := specIsValidWord_ok (p.m.length : Int) w) (hK := ?_)))) | ((first | refine atF (f := 155) ?_ | refine atQ (f := 155) ?_); (first | (refine cI (hac := specCopyInts_ok w hwl 30) (hK := ?_)) | (refine cQI (hac := specCopyInts_ok w hwl 30) (hK := ?_))))); simp (maxSteps := 1000000) (dsimp := false) (implicitDefEqProofs := false) (disch := omega) only [wrap64, go_sem]) | apply_assumption -exfalso -symm)
  all_goals (first | (show endQ _ _ _ _ _ _ _; (repeat (rename (∀ (A : Fr) (H : Hp), AWP _ _ _ _ A H → _) => hK; clear hK)); (repeat (rename (Fr → Hp → Prop) => K; clear K))) | (show Exists _; (repeat (rename (∀ (A : Fr) (H : Hp), AWP _ _ _ _ A H → _) => hK; clear hK)); (repeat (rename (Fr → Hp → Prop) => K; clear K))) | skip)
  · have hp : isPz p := by assumption
    have hw : isW p.m.length w := by assumption
    refine awp_loop (ι := List Int) (fun v => [(5, .list false 1 (v).length (cM iv 0 (v))), (2, .ref 2 0)]) (fun v => Hp.emp.upd 2 (.cells 3 (vecF [.v (.int .i64 p.n), .v (.string p.s), .list false 1 (p.m).length (cM ints [] (p.m))]))) (fun v => isW p.m.length v ∧ smp (odP p) v = smp (odP p) w) mu w ⟨hw, rfl⟩ (Sub.toFF (fun x => x = 30) (Fr.fit_cons rfl (fits_I rfl rfl rfl rfl) (Fr.fit_cons rfl (.refl _) (Fr.fit_nil _))) (leF_upd rfl (.refl _ _ _) leF_emp (by omega))) ?_
    rintro v ⟨hv, hsm⟩
    have hvl := hv.1
    have hsl := (isW_short hp hv).1
    repeat' (first | refine awp_seqK fun K hK => ?_ | (refine awp_regionK 67240055 rfl ?_; simp only [List.map_cons, List.map_nil]; simp (maxSteps := 1000000) (dsimp := false) (implicitDefEqProofs := false) (disch := omega) only [wrap64, go_sem]) | (refine awp_regionQK 67240055 (by kernel_rfl) (by kernel_rfl) (by kernel_rfl) ?_; simp only [List.map_cons, List.map_nil]; simp (maxSteps := 1000000) (dsimp := false) (implicitDefEqProofs := false) (disch := omega) only [wrap64, go_sem]) | refine awp_block ?_ | (refine awp_skip ?_; simp only [go_sem]) | (refine awp_exit ?_; simp only [go_sem]) | (refine awp_ret ?_; try simp only [go_sem]) | (refine awp_condP rfl ?_; try simp only [go_sem]) | (refine BrP.mk (fun h => ?_) (fun h => ?_) <;> try simp (dsimp := false) (disch := omega) only [wrap64]) | (refine Br.mk (fun h => ?_) (fun h => ?_) <;> try simp (dsimp := false) (disch := omega) only [wrap64]) | refine Ob.mk (by first | omega | (intro _ _; rfl) | trivial | (intros; trivial) | assumption | (intro i hi; have h0 : i = 0 := (by omega); subst h0; first | rfl | trivial) | (intro i hi; have h0 : i = 0 ∨ i = 1 := (by omega); rcases h0 with rfl | rfl <;> rfl) | (intro i hi; have h0 : i = 0 ∨ i = 1 ∨ i = 2 := (by omega); rcases h0 with rfl | rfl | rfl <;> rfl)) ?_ | ((first | ((first | refine atF (f := 156) ?_ | refine atQ (f := 156) ?_); (first | (refine cI (hac := specSimplifyRuns_ok p v hp hv 40) (hK := ?_)) | (refine cQI (hac := specSimplifyRuns_ok p v hp hv 40) (hK := ?_)))) | ((first | refine atF (f := 157) ?_ | refine atQ (f := 157) ?_); (first | (refine cV (hac := equalInts_ok (short (odP p) v) v (by omega)) (hK := ?_)) | (refine cQV (hac := equalInts_ok (short (odP p) v) v (by omega)) (hK := ?_))))); simp (maxSteps := 1000000) (dsimp := false) (implicitDefEqProofs := false) (disch := omega) only [wrap64, go_sem]) | apply_assumption -exfalso -symm)
    all_goals (first | (show endQ _ _ _ _ _ _ _; (repeat (rename (∀ (A : Fr) (H : Hp), AWP _ _ _ _ A H → _) => hK; clear hK)); (repeat (rename (Fr → Hp → Prop) => K; clear K))) | (show Exists _; (repeat (rename (∀ (A : Fr) (H : Hp), AWP _ _ _ _ A H → _) => hK; clear hK)); (repeat (rename (Fr → Hp → Prop) => K; clear K))) | skip)
    · have e : short (odP p) v = v := by assumption
      refine end_retF rfl rfl ?_
      rw [show simW p w = v from by unfold simW; rw [if_pos ⟨hp, hw⟩, ← hsm, Go.Wd.smp_stay e]]
      exact .refl _
    · have e : short (odP p) v ≠ v := by assumption
      exact ⟨short (odP p) v, ⟨isW_short hp hv, by rw [Go.Wd.smp_step (sw_of hp hv) e, hsm]⟩, (sw_of hp hv).short.2 e, Sub.toFF (fun x => x = 40) (Fr.fit_cons rfl (fits_I rfl rfl rfl rfl) (Fr.fit_cons rfl (.refl _) (Fr.fit_nil _))) (leF_upd rfl (.refl _ _ _) leF_emp (by omega))⟩
  all_goals
    refine end_retF rfl rfl ?_
    rw [show simW p w = [] from if_neg (by rintro ⟨h1, h2⟩; contradiction)]
    exact fits_I rfl trivial rfl rfl
theorem runs_smB (v : List Int) : Go.Wd.runsK smB v v.length = runs absI v := by
  have e : smB = Go.Wd.kf absI := by
    funext a b
    unfold smB Go.Wd.kf absI
    exact decide_eq_decide.2 (by omega)
  rw [e]; rfl
set_option maxHeartbeats 8000000 in
theorem implSimplify_ok (p : Pz) (w : List Int) (hp : isPz p) (hw : isW p.m.length w) (d : Nat) : AC Try.prog 161 [pz p, ints w] Hp.emp (fun _ => false) (retI d (smp (odP p) w)) := by
  refine ac_of_awp (N := ⟨_, fun _ => false, fun _ _ => rfl⟩) Try.func161 rfl (by kernel_rfl) Try.ntmps161 (by simp) ?_
  simp only [argsFr, List.zipIdx_cons, List.zipIdx_nil, go_sem]
  repeat' (first | refine awp_seqK fun K hK => ?_ | (refine awp_regionK 18014400522873783 rfl ?_; simp only [List.map_cons, List.map_nil]; simp (maxSteps := 1000000) (dsimp := false) (implicitDefEqProofs := false) (disch := omega) only [wrap64, go_sem]) | (refine awp_regionQK 18014400522873783 (by kernel_rfl) (by kernel_rfl) (by kernel_rfl) ?_; simp only [List.map_cons, List.map_nil]; simp (maxSteps := 1000000) (dsimp := false) (implicitDefEqProofs := false) (disch := omega) only [wrap64, go_sem]) | refine awp_block ?_ | (refine awp_skip ?_; simp only [go_sem]) | (refine awp_exit ?_; simp only [go_sem]) | (refine awp_ret ?_; try simp only [go_sem]) | (refine awp_condP rfl ?_; try simp only [go_sem]) | (refine BrP.mk (fun h => ?_) (fun h => ?_) <;> try simp (dsimp := false) (disch := omega) only [wrap64]) | (refine Br.mk (fun h => ?_) (fun h => ?_) <;> try simp (dsimp := false) (disch := omega) only [wrap64]) | refine Ob.mk (by first | omega | (intro _ _; rfl) | trivial | (intros; trivial) | assumption | (intro i hi; have h0 : i = 0 := (by omega); subst h0; first | rfl | trivial) | (intro i hi; have h0 : i = 0 ∨ i = 1 := (by omega); rcases h0 with rfl | rfl <;> rfl) | (intro i hi; have h0 : i = 0 ∨ i = 1 ∨ i = 2 := (by omega); rcases h0 with rfl | rfl | rfl <;> rfl)) ?_ | apply_assumption -exfalso -symm)
  all_goals (first | (show endQ _ _ _ _ _ _ _; (repeat (rename (∀ (A : Fr) (H : Hp), AWP _ _ _ _ A H → _) => hK; clear hK)); (repeat (rename (Fr → Hp → Prop) => K; clear K))) | (show Exists _; (repeat (rename (∀ (A : Fr) (H : Hp), AWP _ _ _ _ A H → _) => hK; clear hK)); (repeat (rename (Fr → Hp → Prop) => K; clear K))) | skip)
  refine awp_loop (ι := List Int) (fun v => [(2, .ref 2 0), (1, .list false 1 (v).length (cM iv 0 (v)))]) (fun v => Hp.emp.upd 2 (.cells 3 (vecF [.v (.int .i64 p.n), .v (.string p.s), .list false 1 (p.m).length (cM ints [] (p.m))]))) (fun v => isW p.m.length v ∧ smp (odP p) v = smp (odP p) w) mu w ⟨hw, rfl⟩ (Sub.toL (by simp only [go_sem] <;> first | trivial | (simp only [Option.some.injEq, AV.v.injEq, AV.own.injEq, AV.list.injEq, Value.int.injEq, Value.bool.injEq, true_and, and_true]; first | omega | (simp; done)) | (simp; done) | (simp; omega)) (by (repeat' (first | exact Hp.le_emp _ | exact Hp.le_refl _ | refine Hp.le_upd ?_ ?_)); all_goals (first | rfl | (simp only [go_sem]; first | rfl | (refine cellsE ?_ ?_ <;> (simp)) | (simp))))) ?_
  rintro v ⟨hv, hsm⟩
  have hvl := hv.1
  have hvb := isW_bd (isW_wide' hv)
  have hrs := runs_smB v
  have hRf := Go.Wd.runs_flat absI v
  repeat' (first | refine awp_seqK fun K hK => ?_ | (refine awp_regionK 18014400522873783 rfl ?_; simp only [List.map_cons, List.map_nil]; simp (maxSteps := 1000000) (dsimp := false) (implicitDefEqProofs := false) (disch := omega) only [wrap64, go_sem, hrs]) | (refine awp_regionQK 18014400522873783 (by kernel_rfl) (by kernel_rfl) (by kernel_rfl) ?_; simp only [List.map_cons, List.map_nil]; simp (maxSteps := 1000000) (dsimp := false) (implicitDefEqProofs := false) (disch := omega) only [wrap64, go_sem, hrs]) | refine awp_block ?_ | (refine awp_skip ?_; simp only [go_sem, hrs]) | (refine awp_exit ?_; simp only [go_sem, hrs]) | (refine awp_ret ?_; try simp only [go_sem, hrs]) | (refine awp_condP rfl ?_; try simp only [go_sem, hrs]) | (refine BrP.mk (fun h => ?_) (fun h => ?_) <;> try simp (dsimp := false) (disch := omega) only [wrap64]) | (refine Br.mk (fun h => ?_) (fun h => ?_) <;> try simp (dsimp := false) (disch := omega) only [wrap64]) | refine Ob.mk (by first | omega | (intro _ _; rfl) | trivial | (intros; trivial) | assumption | (intro i hi; have h0 : i = 0 := (by omega); subst h0; first | rfl | trivial) | (intro i hi; have h0 : i = 0 ∨ i = 1 := (by omega); rcases h0 with rfl | rfl <;> rfl) | (intro i hi; have h0 : i = 0 ∨ i = 1 ∨ i = 2 := (by omega); rcases h0 with rfl | rfl | rfl <;> rfl)) ?_ | ((first | ((first | refine atF (f := 234) ?_ | refine atQ (f := 234) ?_); (first | (refine cR (hac := runs_okA v _ smB (by omega) (fun i j hi hj => sameMove_ok _ _ (hvb j))) (hK := ?_)) | (refine cQR (hac := runs_okA v _ smB (by omega) (fun i j hi hj => sameMove_ok _ _ (hvb j))) (hK := ?_))))); simp (maxSteps := 1000000) (dsimp := false) (implicitDefEqProofs := false) (disch := omega) only [wrap64, go_sem, hrs]) | apply_assumption -exfalso -symm)
  all_goals (first | (show endQ _ _ _ _ _ _ _; (repeat (rename (∀ (A : Fr) (H : Hp), AWP _ _ _ _ A H → _) => hK; clear hK)); (repeat (rename (Fr → Hp → Prop) => K; clear K))) | (show Exists _; (repeat (rename (∀ (A : Fr) (H : Hp), AWP _ _ _ _ A H → _) => hK; clear hK)); (repeat (rename (Fr → Hp → Prop) => K; clear K))) | skip)
  have hk0 : shortK (odP p) v 0 = [] := by simp [shortK]
  refine awp_loop (ι := Nat) (fun j => [(15, .v (.int .i64 ((j : Nat)))), (14, .v (.int .i64 ((runs absI v).length))), (13, .list false 1 (runs absI v).length (cM ints [] (runs absI v))), (5, .own 70 0 1 (shortK (odP p) v j).length), (2, .ref 2 0), (1, .list false 1 (v).length (cM iv 0 (v)))]) (fun j => (Hp.emp.upd 2 (.cells 3 (vecF [.v (.int .i64 p.n), .v (.string p.s), .list false 1 (p.m).length (cM ints [] (p.m))]))).upd 70 (.cells (shortK (odP p) v j).length (cM iv 0 (shortK (odP p) v j)))) (fun j => j ≤ (runs absI v).length) (fun j => (runs absI v).length - j) 0 (Nat.zero_le _) (Sub.trans (Sub.nil (i := 5) 70 1 (cM iv 0 []) rfl rfl) (Sub.toL (by simp only [go_sem] <;> first | trivial | (simp only [Option.some.injEq, AV.v.injEq, AV.own.injEq, AV.list.injEq, Value.int.injEq, Value.bool.injEq, true_and, and_true]; first | omega | (simp [hk0]; done)) | (simp [hk0]; done) | (simp [hk0]; omega)) (Hp.le_upd (by rw [hk0]; rfl) (Hp.le_upd (by simp only [go_sem]) (Hp.le_emp _))))) ?_
  intro j hj
  have hRl : (runs absI v).length ≤ 200 := by
    have := Go.Wd.runN_le (Go.Wd.kf absI) v v.length
    unfold runs; rw [Go.Wd.runsK_len]; omega
  have hbl : (shortK (odP p) v j).length ≤ 200 := by
    have h1 := Go.Wd.shortK_len (od := odP p) (w := v) (odP_all hp hv) j hj
    have h2 : offs (runs absI v) j ≤ v.length := by
      rcases Nat.lt_or_ge j (runs absI v).length with h | h
      · have := Go.Wd.offs_mono h; omega
      · have e : j = (runs absI v).length := by omega
        rw [e, Go.Wd.offs_all, hRf]; exact Nat.le_refl _
    omega
  have hq := fun h : j < (runs absI v).length => Go.Wd.run_end h
  have q6 := fun h : j < (runs absI v).length => Go.Wd.shortK_succ (odP p) v h
  obtain ⟨r, er⟩ : ∃ r, r = (runs absI v).getD j [] := ⟨_, rfl⟩
  have hr : j < (runs absI v).length → 0 < r.length ∧ r.length ≤ 200 ∧ (-8 ≤ r.getD 0 0 ∧ r.getD 0 0 ≤ 8) ∧ isL p.m.length (r.getD 0 0) := fun h => by
    obtain ⟨q1, _, q3⟩ := hq h
    have := Go.Wd.offs_le h
    rw [hRf] at this
    have h0 := q1 0 q3
    have hb := hv.2 _ h0.1
    rw [h0.2.1] at hb
    rw [er]
    exact ⟨q3, by omega, hb.2.1, hb⟩
  have hri : ∀ i, j < (runs absI v).length → i < r.length → r.getD i 0 ≠ 0 ∧ (-8 ≤ r.getD i 0 ∧ r.getD i 0 ≤ 8) ∧ absI (r.getD i 0) = absI (r.getD 0 0) := fun i h hi => by
    obtain ⟨q1, _, q3⟩ := hq h
    rw [er] at hi
    have h0 := q1 0 q3
    have h1 := q1 i hi
    have hb := hv.2 _ h1.1
    rw [h1.2.1] at hb
    have e := h1.2.2
    rw [h1.2.1] at e
    rw [er, e]
    refine ⟨hb.1, hb.2.1, ?_⟩
    rw [← h0.2.1, Nat.add_zero]
  repeat' (first | refine awp_seqK fun K hK => ?_ | (refine awp_regionK 18014400522873783 rfl ?_; simp only [List.map_cons, List.map_nil]; simp (maxSteps := 1000000) (dsimp := false) (implicitDefEqProofs := false) (disch := omega) only [wrap64, go_sem, ← er, Int.toNat_zero]) | (refine awp_regionQK 18014400522873783 (by kernel_rfl) (by kernel_rfl) (by kernel_rfl) ?_; simp only [List.map_cons, List.map_nil]; simp (maxSteps := 1000000) (dsimp := false) (implicitDefEqProofs := false) (disch := omega) only [wrap64, go_sem, ← er, Int.toNat_zero]) | refine awp_block ?_ | (refine awp_skip ?_; simp only [go_sem, ← er, Int.toNat_zero]) | (refine awp_exit ?_; simp only [go_sem, ← er, Int.toNat_zero]) | (refine awp_ret ?_; try simp only [go_sem, ← er, Int.toNat_zero]) | (refine awp_condP rfl ?_; try simp only [go_sem, ← er, Int.toNat_zero]) | (refine BrP.mk (fun h => ?_) (fun h => ?_) <;> try simp (dsimp := false) (disch := omega) only [wrap64]) | (refine Br.mk (fun h => ?_) (fun h => ?_) <;> try simp (dsimp := false) (disch := omega) only [wrap64]) | refine Ob.mk (by first | omega | (intro _ _; rfl) | trivial | (intros; trivial) | assumption | (intro i hi; have h0 : i = 0 := (by omega); subst h0; first | rfl | trivial) | (intro i hi; have h0 : i = 0 ∨ i = 1 := (by omega); rcases h0 with rfl | rfl <;> rfl) | (intro i hi; have h0 : i = 0 ∨ i = 1 ∨ i = 2 := (by omega); rcases h0 with rfl | rfl | rfl <;> rfl)) ?_ | ((first | ((first | refine atF (f := 170) ?_ | refine atQ (f := 170) ?_); (first | (refine cV (hac := slicesEqual_ok (shortK (odP p) v j) v (by omega)) (hK := ?_)) | (refine cQV (hac := slicesEqual_ok (shortK (odP p) v j) v (by omega)) (hK := ?_))))); simp (maxSteps := 1000000) (dsimp := false) (implicitDefEqProofs := false) (disch := omega) only [wrap64, go_sem, ← er, Int.toNat_zero]) | apply_assumption -exfalso -symm)
  all_goals (first | (show endQ _ _ _ _ _ _ _; (repeat (rename (∀ (A : Fr) (H : Hp), AWP _ _ _ _ A H → _) => hK; clear hK)); (repeat (rename (Fr → Hp → Prop) => K; clear K))) | (show Exists _; (repeat (rename (∀ (A : Fr) (H : Hp), AWP _ _ _ _ A H → _) => hK; clear hK)); (repeat (rename (Fr → Hp → Prop) => K; clear K))) | skip)
  · have hjl : j < (runs absI v).length := by omega
    obtain ⟨hr1, hr2, hr3, hr4⟩ := hr hjl
    have q6a := q6 hjl
    rw [← er] at q6a
    obtain ⟨a, ea⟩ : ∃ a, a = absI (r.getD 0 0) := ⟨_, rfl⟩
    have em : max (r.getD 0 0) (0 - r.getD 0 0) = a := by rw [ea]; unfold absI; omega
    have ha : 1 ≤ a ∧ a ≤ p.m.length := by
      rw [ea]; unfold isL at hr4; unfold absI; omega
    have ha8 : a ≤ 8 := by rw [ea]; unfold absI; omega
    rw [em]
    obtain ⟨hpm, ho1, ho2⟩ := odP_ok hp ha
    have hpo := (isPerm_pm _).1 hpm
    have q7 : shortK (odP p) v (j + 1) = shortK (odP p) v j ++ lets a (sres (sumS r) (odP p a)) := by rw [q6a]; unfold shortR; rw [← ea]
    obtain ⟨base, eb⟩ : ∃ base, base = shortK (odP p) v j := ⟨_, rfl⟩
    rw [← eb] at q7 hbl ⊢
    refine awp_loop (ι := Nat) (fun i => [(29, .v (.int .i64 ((i : Nat)))), (28, .v (.int .i64 (r.length))), (27, .list false 1 (r).length (cM iv 0 (r))), (9, .v (.int .i64 (sumS (r.take i)))), (8, .v (.int .i64 (a))), (15, .v (.int .i64 ((j : Nat)))), (14, .v (.int .i64 ((runs absI v).length))), (13, .list false 1 (runs absI v).length (cM ints [] (runs absI v))), (5, .own 70 0 1 base.length), (2, .ref 2 0), (1, .list false 1 (v).length (cM iv 0 (v)))]) (fun i => (Hp.emp.upd 2 (.cells 3 (vecF [.v (.int .i64 p.n), .v (.string p.s), .list false 1 (p.m).length (cM ints [] (p.m))]))).upd 70 (.cells base.length (cM iv 0 base))) (fun i => i ≤ r.length) (fun i => r.length - i) 0 (Nat.zero_le _) (Sub.toL (by simp only [go_sem] <;> first | trivial | (simp only [Option.some.injEq, AV.v.injEq, AV.own.injEq, AV.list.injEq, Value.int.injEq, Value.bool.injEq, true_and, and_true]; first | omega | (simp [sumS]; done)) | (simp [sumS]; done) | (simp [sumS]; omega)) (by (repeat' (first | exact Hp.le_emp _ | exact Hp.le_refl _ | refine Hp.le_upd ?_ ?_)); all_goals (first | rfl | (simp only [go_sem]; first | rfl | (refine cellsE ?_ ?_ <;> (simp)) | (simp))))) ?_
    intro i hi
    have hsb := Go.Wd.sumS_bd r i
    have hin : i < r.length → (r.getD i 0).tdiv a = sgn (r.getD i 0) ∧ sumS (r.take (i + 1)) = sumS (r.take i) + sgn (r.getD i 0) := fun h => by
      obtain ⟨k1, k2, k3⟩ := hri i hjl h
      exact ⟨(mv_ok (x := r.getD i 0) (a := a) (by rw [ea]; exact k3) k1).2.1, Go.Wd.sumS_take h⟩
    have hsg := sgn_in (r.getD i 0)
    obtain ⟨x, ex⟩ : ∃ x, x = r.getD i 0 := ⟨_, rfl⟩
    have hxb : i < r.length → -8 ≤ x ∧ x ≤ 8 := fun h => by rw [ex]; exact (hri i hjl h).2.1
    rw [← ex] at hin hsg
    have ex' := ex.symm
    obtain ⟨u, eu⟩ : ∃ u, u = sumS (r.take i) := ⟨_, rfl⟩
    rw [← eu] at hsb hin ⊢
    clear hri hq q6 hr
    have hll : (lets a (sres u (odP p a))).length ≤ 200 := by
      rw [Go.Wd.lets_len]
      have := (Go.Wd.sres_ok (k := u) (d := odP p a) (by omega)).1
      omega
    obtain ⟨y, ey⟩ : ∃ y, y = lets a (sres u (odP p a)) := ⟨_, rfl⟩
    have hsr := shortestRun_ok a u (odP p a) (by omega) (by omega) (by omega) 60
    rw [← ey] at hll hsr
    have hap := apF_cM iv 0 base y
    repeat' (first | refine awp_seqK fun K hK => ?_ | (refine awp_regionK 18014400522873783 rfl ?_; simp only [List.map_cons, List.map_nil]; simp (maxSteps := 1000000) (dsimp := false) (implicitDefEqProofs := false) (disch := omega) only [wrap64, go_sem, ex', Nat.le_refl]) | (refine awp_regionQK 18014400522873783 (by kernel_rfl) (by kernel_rfl) (by kernel_rfl) ?_; simp only [List.map_cons, List.map_nil]; simp (maxSteps := 1000000) (dsimp := false) (implicitDefEqProofs := false) (disch := omega) only [wrap64, go_sem, ex', Nat.le_refl]) | refine awp_block ?_ | (refine awp_skip ?_; simp only [go_sem, ex', Nat.le_refl]) | (refine awp_exit ?_; simp only [go_sem, ex', Nat.le_refl]) | (refine awp_ret ?_; try simp only [go_sem, ex', Nat.le_refl]) | (refine awp_condP rfl ?_; try simp only [go_sem, ex', Nat.le_refl]) | (refine BrP.mk (fun h => ?_) (fun h => ?_) <;> try simp (dsimp := false) (disch := omega) only [wrap64]) | (refine Br.mk (fun h => ?_) (fun h => ?_) <;> try simp (dsimp := false) (disch := omega) only [wrap64]) | refine Ob.mk (by first | omega | (intro _ _; rfl) | trivial | (intros; trivial) | assumption | (intro i hi; have h0 : i = 0 := (by omega); subst h0; first | rfl | trivial) | (intro i hi; have h0 : i = 0 ∨ i = 1 := (by omega); rcases h0 with rfl | rfl <;> rfl) | (intro i hi; have h0 : i = 0 ∨ i = 1 ∨ i = 2 := (by omega); rcases h0 with rfl | rfl | rfl <;> rfl)) ?_ | ((first | ((first | refine atF (f := 252) ?_ | refine atQ (f := 252) ?_); (first | (refine cV (hac := implOrder_ok _ (p.m.getD (a - 1).toNat []) hpo.2 hpo.1.2) (hK := ?_)) | (refine cQV (hac := implOrder_ok _ (p.m.getD (a - 1).toNat []) hpo.2 hpo.1.2) (hK := ?_)))) | ((first | refine atF (f := 251) ?_ | refine atQ (f := 251) ?_); (refine cI (hac := hsr) (hK := ?_)))); simp (maxSteps := 1000000) (dsimp := false) (implicitDefEqProofs := false) (disch := omega) only [wrap64, go_sem, ex', Nat.le_refl]) | apply_assumption -exfalso -symm)
    all_goals (first | (show endQ _ _ _ _ _ _ _; (repeat (rename (∀ (A : Fr) (H : Hp), AWP _ _ _ _ A H → _) => hK; clear hK)); (repeat (rename (Fr → Hp → Prop) => K; clear K))) | (show Exists _; (repeat (rename (∀ (A : Fr) (H : Hp), AWP _ _ _ _ A H → _) => hK; clear hK)); (repeat (rename (Fr → Hp → Prop) => K; clear K))) | skip)
    · exact ⟨i + 1, by omega, by omega, Sub.toL (by simp only [go_sem] <;> first | trivial | (simp only [Option.some.injEq, AV.v.injEq, AV.own.injEq, AV.list.injEq, Value.int.injEq, Value.bool.injEq, true_and, and_true]; first | omega | (simp [hin (by omega)]; done)) | (simp [hin (by omega)]; done) | (simp [hin (by omega)]; omega)) (by (repeat' (first | exact Hp.le_emp _ | exact Hp.le_refl _ | refine Hp.le_upd ?_ ?_)); all_goals (first | rfl | (simp only [go_sem]; first | rfl | (refine cellsE ?_ ?_ <;> (simp)) | (simp))))⟩
    · have hir : i = r.length := by omega
      have eu2 : u = sumS r := by rw [eu, hir, List.take_length]
      have q8 : shortK (odP p) v (j + 1) = base ++ y := by rw [q7, ← eu2, ey]
      exact ⟨j + 1, by omega, by omega, Sub.toL (by simp only [go_sem] <;> first | trivial | (simp only [Option.some.injEq, AV.v.injEq, AV.own.injEq, AV.list.injEq, Value.int.injEq, Value.bool.injEq, true_and, and_true]; first | omega | (simp [q8]; done)) | (simp [q8]; done) | (simp [q8]; omega)) (by (repeat' (first | exact Hp.le_emp _ | exact Hp.le_refl _ | refine Hp.le_upd ?_ ?_)); all_goals (first | rfl | (simp only [go_sem]; first | rfl | (refine cellsE ?_ ?_ <;> (simp [q8, hap])) | (simp [q8, hap]))))⟩
  · have e : j = (runs absI v).length := by omega
    have e2 : shortK (odP p) v j = v := by assumption
    rw [e2, ← hsm]
    refine end_retI' rfl rfl rfl ?_ rfl rfl
    rw [Go.Wd.smp_stay]
    rw [← Go.Wd.shortK_all, ← e, e2]
  · have e : j = (runs absI v).length := by omega
    have e2 : shortK (odP p) v j ≠ v := by assumption
    rw [e, Go.Wd.shortK_all] at e2 ⊢
    exact ⟨short (odP p) v, ⟨isW_short hp hv, by rw [Go.Wd.smp_step (sw_of hp hv) e2, hsm]⟩, (sw_of hp hv).short.2 e2, Sub.toFF (fun x => x = 70) (Fr.fit_cons rfl (.refl _) (Fr.fit_cons rfl (fits_I rfl rfl rfl rfl) (Fr.fit_nil _))) (leF_upd rfl (.refl _ _ _) leF_emp (by omega))⟩
theorem implSimplifyWord_ok (p : Pz) (w : List Int) (hs : p.s.size ≤ 140737488355328) (d : Nat) : AC Try.prog 49 [pz p, ints w] Hp.emp (fun _ => false) (retI d (simW p w)) := by
  refine ac_of_awp (N := ⟨_, fun _ => false, fun _ _ => rfl⟩) Try.func49 rfl (by kernel_rfl) Try.ntmps49 (by simp) ?_
  simp only [argsFr, List.zipIdx_cons, List.zipIdx_nil, go_sem]
  repeat' (first | refine awp_seqK fun K hK => ?_ | (refine awp_regionK 8215 rfl ?_; simp only [List.map_cons, List.map_nil]; simp (maxSteps := 1000000) (dsimp := false) (implicitDefEqProofs := false) (disch := omega) only [wrap64, go_sem]) | (refine awp_regionQK 8215 (by kernel_rfl) (by kernel_rfl) (by kernel_rfl) ?_; simp only [List.map_cons, List.map_nil]; simp (maxSteps := 1000000) (dsimp := false) (implicitDefEqProofs := false) (disch := omega) only [wrap64, go_sem]) | refine awp_block ?_ | (refine awp_skip ?_; simp only [go_sem]) | (refine awp_exit ?_; simp only [go_sem]) | (refine awp_ret ?_; try simp only [go_sem]) | (refine awp_condP rfl ?_; try simp only [go_sem]) | (refine BrP.mk (fun h => ?_) (fun h => ?_) <;> try simp (dsimp := false) (disch := omega) only [wrap64]) | (refine Br.mk (fun h => ?_) (fun h => ?_) <;> try simp (dsimp := false) (disch := omega) only [wrap64]) | refine Ob.mk (by first | omega | (intro _ _; rfl) | trivial | (intros; trivial) | assumption | (intro i hi; have h0 : i = 0 := (by omega); subst h0; first | rfl | trivial) | (intro i hi; have h0 : i = 0 ∨ i = 1 := (by omega); rcases h0 with rfl | rfl <;> rfl) | (intro i hi; have h0 : i = 0 ∨ i = 1 ∨ i = 2 := (by omega); rcases h0 with rfl | rfl | rfl <;> rfl)) ?_ | ((first | ((first | refine atF (f := 159) ?_ | refine atQ (f := 159) ?_); (first | (refine cV (hac := implIsValidPuzzle_ok p hs) (hK := ?_)) | (refine cQV (hac := implIsValidPuzzle_ok p hs) (hK := ?_)))) | ((first | refine atF (f := 160) ?_ | refine atQ (f := 160) ?_); (first | (refine cV (hac := puzIsWord_ok p w) (hK := ?_)) | (refine cQV (hac := puzIsWord_ok p w) (hK := ?_)))) | ((first | refine atF (f := 161) ?_ | refine atQ (f := 161) ?_); (first | (refine cI (hac := implSimplify_ok p w (by assumption) (by assumption) 30) (hK := ?_)) | (refine cQI (hac := implSimplify_ok p w (by assumption) (by assumption) 30) (hK := ?_))))); simp (maxSteps := 1000000) (dsimp := false) (implicitDefEqProofs := false) (disch := omega) only [wrap64, go_sem]) | apply_assumption -exfalso -symm)
  all_goals (first | (show endQ _ _ _ _ _ _ _; (repeat (rename (∀ (A : Fr) (H : Hp), AWP _ _ _ _ A H → _) => hK; clear hK)); (repeat (rename (Fr → Hp → Prop) => K; clear K))) | (show Exists _; (repeat (rename (∀ (A : Fr) (H : Hp), AWP _ _ _ _ A H → _) => hK; clear hK)); (repeat (rename (Fr → Hp → Prop) => K; clear K))) | skip)
  all_goals
    (first | refine end_retI' rfl rfl rfl ?_ rfl rfl | refine end_retI_nil' rfl rfl ?_ rfl)
    unfold simW
    first
    | (rw [if_pos ⟨by assumption, by assumption⟩]; done)
    | (rw [if_neg (by rintro ⟨h1, h2⟩; contradiction)]; done)
    | (rw [if_neg (by rintro ⟨h1, h2⟩; contradiction)]; rfl)
end Go.Proofs.Ytcfnbahpdlmcpaa
end
