import Derived.Test.YtcfnbahpdlmcpaaL4
import Derived.Test.YtcfnbahpdlmcpaaL3
import Derived.Test.YtcfnbahpdlmcpaaL10
import Derived.Test.YtcfnbahpdlmcpaaL5
/- The laws' dice: how they lie in memory, and what a throw answers. -/
section
namespace Go.Proofs.Ytcfnbahpdlmcpaa
open Go.Av
set_option linter.unusedSimpArgs false
set_option linter.unusedVariables false
attribute [local irreducible] AWP CallG Ob Br BrP Go.Av.Sub endQ AOps OpV AC thenA blkA opsVC opVC withA withArgs opsQ opQ CallQ withA2 withArgs2
theorem tmod_in {x n : Int} (hx : 0 ≤ x) (hn : 0 < n) : 0 ≤ x.tmod n ∧ x.tmod n < n := ⟨Int.tmod_nonneg n hx, Int.tmod_lt_of_pos x hn⟩
theorem c3 {f g : Nat → AV} (h0 : f 0 = g 0) (h1 : f 1 = g 1) (h2 : f 2 = g 2) : ∀ i, i < 3 → f i = g i := fun i hi => by
  match i, hi with
  | 0, _ => exact h0
  | 1, _ => exact h1
  | 2, _ => exact h2
end Go.Proofs.Ytcfnbahpdlmcpaa
end
/- The laws' dice: how they are made; words of dice; whether codes are big, rows alike. -/
section
namespace Go.Proofs.Ytcfnbahpdlmcpaa
open Go.Av
set_option linter.unusedSimpArgs false
set_option linter.unusedVariables false
attribute [local irreducible] AWP CallG Ob Br BrP Go.Av.Sub endQ AOps OpV AC thenA blkA opsVC opVC withA withArgs opsQ opQ CallQ withA2 withArgs2
open Go.Pm (Pm comp invp idn img)
theorem big_ok (xs : List Int) : AC Try.prog 18 [bts xs] Hp.emp (fun _ => false) (retV (.v (.bool (decide (4096 < xs.length))))) := by
  refine ac_of_awp (N := ⟨_, fun _ => false, fun _ _ => rfl⟩) Try.func18 rfl (by kernel_rfl) Try.ntmps18 (by simp) ?_
  simp only [argsFr, List.zipIdx_cons, List.zipIdx_nil, go_sem]
  unfold bts
  repeat' (first | refine awp_seqK fun K hK => ?_ | (refine awp_regionK 5 rfl ?_; simp only [List.map_cons, List.map_nil]; simp (maxSteps := 1000000) (dsimp := false) (implicitDefEqProofs := false) (disch := omega) only [wrap64, go_sem]) | (refine awp_regionQK 5 (by kernel_rfl) (by kernel_rfl) (by kernel_rfl) ?_; simp only [List.map_cons, List.map_nil]; simp (maxSteps := 1000000) (dsimp := false) (implicitDefEqProofs := false) (disch := omega) only [wrap64, go_sem]) | refine awp_block ?_ | (refine awp_skip ?_; simp only [go_sem]) | (refine awp_exit ?_; simp only [go_sem]) | (refine awp_ret ?_; try simp only [go_sem]) | (refine awp_condP rfl ?_; try simp only [go_sem]) | (refine BrP.mk (fun h => ?_) (fun h => ?_) <;> try simp (dsimp := false) (disch := omega) only [wrap64]) | (refine Br.mk (fun h => ?_) (fun h => ?_) <;> try simp (dsimp := false) (disch := omega) only [wrap64]) | refine Ob.mk (by first | omega | (intro _ _; rfl) | trivial | (intros; trivial) | assumption | (intro i hi; have h0 : i = 0 := (by omega); subst h0; first | rfl | trivial) | (intro i hi; have h0 : i = 0 ∨ i = 1 := (by omega); rcases h0 with rfl | rfl <;> rfl) | (intro i hi; have h0 : i = 0 ∨ i = 1 ∨ i = 2 := (by omega); rcases h0 with rfl | rfl | rfl <;> rfl)) ?_ | apply_assumption -exfalso -symm)
  all_goals (first | (show endQ _ _ _ _ _ _ _; (repeat (rename (∀ (A : Fr) (H : Hp), AWP _ _ _ _ A H → _) => hK; clear hK)); (repeat (rename (Fr → Hp → Prop) => K; clear K))) | (show Exists _; (repeat (rename (∀ (A : Fr) (H : Hp), AWP _ _ _ _ A H → _) => hK; clear hK)); (repeat (rename (Fr → Hp → Prop) => K; clear K))) | skip)
  exact end_retB rfl rfl (by simp; omega)
theorem likeInts_ok (xs ys : List Int) (hlen : xs.length ≤ 9223372036854775807) : AC Try.prog 21 [ints xs, ints ys] Hp.emp (fun _ => false) (retV (.v (.bool (decide (xs = ys))))) := by
  refine ac_of_awp (N := ⟨_, fun _ => false, fun _ _ => rfl⟩) Try.func21 rfl (by kernel_rfl) Try.ntmps21 (by simp) ?_
  simp only [argsFr, List.zipIdx_cons, List.zipIdx_nil, go_sem]
  repeat' (first | refine awp_seqK fun K hK => ?_ | (refine awp_regionK 33571891 rfl ?_; simp only [List.map_cons, List.map_nil]; simp (maxSteps := 1000000) (dsimp := false) (implicitDefEqProofs := false) (disch := omega) only [wrap64, go_sem]) | (refine awp_regionQK 33571891 (by kernel_rfl) (by kernel_rfl) (by kernel_rfl) ?_; simp only [List.map_cons, List.map_nil]; simp (maxSteps := 1000000) (dsimp := false) (implicitDefEqProofs := false) (disch := omega) only [wrap64, go_sem]) | refine awp_block ?_ | (refine awp_skip ?_; simp only [go_sem]) | (refine awp_exit ?_; simp only [go_sem]) | (refine awp_ret ?_; try simp only [go_sem]) | (refine awp_condP rfl ?_; try simp only [go_sem]) | (refine BrP.mk (fun h => ?_) (fun h => ?_) <;> try simp (dsimp := false) (disch := omega) only [wrap64]) | (refine Br.mk (fun h => ?_) (fun h => ?_) <;> try simp (dsimp := false) (disch := omega) only [wrap64]) | refine Ob.mk (by first | omega | (intro _ _; rfl) | trivial | (intros; trivial) | assumption | (intro i hi; have h0 : i = 0 := (by omega); subst h0; first | rfl | trivial) | (intro i hi; have h0 : i = 0 ∨ i = 1 := (by omega); rcases h0 with rfl | rfl <;> rfl) | (intro i hi; have h0 : i = 0 ∨ i = 1 ∨ i = 2 := (by omega); rcases h0 with rfl | rfl | rfl <;> rfl)) ?_ | apply_assumption -exfalso -symm)
  all_goals (first | (show endQ _ _ _ _ _ _ _; (repeat (rename (∀ (A : Fr) (H : Hp), AWP _ _ _ _ A H → _) => hK; clear hK)); (repeat (rename (Fr → Hp → Prop) => K; clear K))) | (show Exists _; (repeat (rename (∀ (A : Fr) (H : Hp), AWP _ _ _ _ A H → _) => hK; clear hK)); (repeat (rename (Fr → Hp → Prop) => K; clear K))) | skip)
  · have hl : xs.length = ys.length := by omega
    refine awp_loop (ι := Nat) (fun k => [(5, .v (.int .i64 (k))), (0, .list false 1 (xs).length (cM iv 0 (xs))), (1, .list false 1 (ys).length (cM iv 0 (ys)))]) (fun k => Hp.emp) (fun k => k ≤ xs.length ∧ ∀ j, j < k → xs.getD j 0 = ys.getD j 0) (fun k => xs.length - k) 0 ?_ (Sub.toL (by simp only [go_sem] <;> first | trivial | (simp only [Option.some.injEq, AV.v.injEq, AV.own.injEq, AV.list.injEq, Value.int.injEq, Value.bool.injEq, true_and, and_true]; first | omega | (simp; done)) | (simp; done) | (simp; omega)) (by (repeat' (first | exact Hp.le_emp _ | exact Hp.le_refl _ | refine Hp.le_upd ?_ ?_)); all_goals (first | rfl | (simp only [go_sem]; first | rfl | (refine cellsE ?_ ?_ <;> (simp)) | (simp))))) ?_
    · exact ⟨Nat.zero_le _, fun j h => absurd h (Nat.not_lt_zero _)⟩
    intro k hk
    repeat' (first | refine awp_seqK fun K hK => ?_ | (refine awp_regionK 33571891 rfl ?_; simp only [List.map_cons, List.map_nil]; simp (maxSteps := 1000000) (dsimp := false) (implicitDefEqProofs := false) (disch := omega) only [wrap64, go_sem]) | (refine awp_regionQK 33571891 (by kernel_rfl) (by kernel_rfl) (by kernel_rfl) ?_; simp only [List.map_cons, List.map_nil]; simp (maxSteps := 1000000) (dsimp := false) (implicitDefEqProofs := false) (disch := omega) only [wrap64, go_sem]) | refine awp_block ?_ | (refine awp_skip ?_; simp only [go_sem]) | (refine awp_exit ?_; simp only [go_sem]) | (refine awp_ret ?_; try simp only [go_sem]) | (refine awp_condP rfl ?_; try simp only [go_sem]) | (refine BrP.mk (fun h => ?_) (fun h => ?_) <;> try simp (dsimp := false) (disch := omega) only [wrap64]) | (refine Br.mk (fun h => ?_) (fun h => ?_) <;> try simp (dsimp := false) (disch := omega) only [wrap64]) | refine Ob.mk (by first | omega | (intro _ _; rfl) | trivial | (intros; trivial) | assumption | (intro i hi; have h0 : i = 0 := (by omega); subst h0; first | rfl | trivial) | (intro i hi; have h0 : i = 0 ∨ i = 1 := (by omega); rcases h0 with rfl | rfl <;> rfl) | (intro i hi; have h0 : i = 0 ∨ i = 1 ∨ i = 2 := (by omega); rcases h0 with rfl | rfl | rfl <;> rfl)) ?_ | apply_assumption -exfalso -symm)
    all_goals (first | (show endQ _ _ _ _ _ _ _; (repeat (rename (∀ (A : Fr) (H : Hp), AWP _ _ _ _ A H → _) => hK; clear hK)); (repeat (rename (Fr → Hp → Prop) => K; clear K))) | (show Exists _; (repeat (rename (∀ (A : Fr) (H : Hp), AWP _ _ _ _ A H → _) => hK; clear hK)); (repeat (rename (Fr → Hp → Prop) => K; clear K))) | skip)
    · refine ⟨k + 1, ?_, ?_, Sub.toL (by simp only [go_sem] <;> first | trivial | (simp only [Option.some.injEq, AV.v.injEq, AV.own.injEq, AV.list.injEq, Value.int.injEq, Value.bool.injEq, true_and, and_true]; first | omega | (simp; done)) | (simp; done) | (simp; omega)) (by (repeat' (first | exact Hp.le_emp _ | exact Hp.le_refl _ | refine Hp.le_upd ?_ ?_)); all_goals (first | rfl | (simp only [go_sem]; first | rfl | (refine cellsE ?_ ?_ <;> (simp)) | (simp))))⟩
      · refine ⟨by omega, fun j hj => ?_⟩
        by_cases e : j = k
        · subst e; assumption
        · exact hk.2 j (by omega)
      · omega
    · refine end_retB rfl rfl ?_
      simp only [Bool.false_eq_true, false_iff]
      rintro rfl
      exact absurd rfl ‹¬_›
    · refine end_retB rfl rfl ?_
      simp only [true_iff]
      exact eq_of_getD hl fun j hj => hk.2 j (by omega)
  · refine end_retB rfl rfl ?_
    simp only [Bool.false_eq_true, false_iff]
    rintro rfl
    omega
end Go.Proofs.Ytcfnbahpdlmcpaa
end
/- Which of two words is less. -/
section
namespace Go.Proofs.Ytcfnbahpdlmcpaa
open Go.Av
set_option linter.unusedSimpArgs false
set_option linter.unusedVariables false
attribute [local irreducible] AWP CallG Ob Br BrP Go.Av.Sub endQ AOps OpV AC thenA blkA opsVC opVC withA withArgs opsQ opQ CallQ withA2 withArgs2
def rk (x : Int) : Int := if x < 0 then -2 * x - 1 else 2 * x - 2
theorem letterRank_ok (x : Int) (hx : -100 ≤ x ∧ x ≤ 100) : AC Try.prog 240 [.v (.int .i64 (x))] Hp.emp (fun _ => false) (retV (.v (.int .i64 (rk x)))) := by
  refine ac_of_awp (N := ⟨_, fun _ => false, fun _ _ => rfl⟩) Try.func240 rfl (by kernel_rfl) Try.ntmps240 (by simp) ?_
  simp only [argsFr, List.zipIdx_cons, List.zipIdx_nil, go_sem]
  repeat' (first | refine awp_seqK fun K hK => ?_ | (refine awp_regionK 21 rfl ?_; simp only [List.map_cons, List.map_nil]; simp (maxSteps := 1000000) (dsimp := false) (implicitDefEqProofs := false) (disch := omega) only [wrap64, go_sem]) | (refine awp_regionQK 21 (by kernel_rfl) (by kernel_rfl) (by kernel_rfl) ?_; simp only [List.map_cons, List.map_nil]; simp (maxSteps := 1000000) (dsimp := false) (implicitDefEqProofs := false) (disch := omega) only [wrap64, go_sem]) | refine awp_block ?_ | (refine awp_skip ?_; simp only [go_sem]) | (refine awp_exit ?_; simp only [go_sem]) | (refine awp_ret ?_; try simp only [go_sem]) | (refine awp_condP rfl ?_; try simp only [go_sem]) | (refine BrP.mk (fun h => ?_) (fun h => ?_) <;> try simp (dsimp := false) (disch := omega) only [wrap64]) | (refine Br.mk (fun h => ?_) (fun h => ?_) <;> try simp (dsimp := false) (disch := omega) only [wrap64]) | refine Ob.mk (by first | omega | (intro _ _; rfl) | trivial | (intros; trivial) | assumption | (intro i hi; have h0 : i = 0 := (by omega); subst h0; first | rfl | trivial) | (intro i hi; have h0 : i = 0 ∨ i = 1 := (by omega); rcases h0 with rfl | rfl <;> rfl) | (intro i hi; have h0 : i = 0 ∨ i = 1 ∨ i = 2 := (by omega); rcases h0 with rfl | rfl | rfl <;> rfl)) ?_ | apply_assumption -exfalso -symm)
  all_goals (first | (show endQ _ _ _ _ _ _ _; (repeat (rename (∀ (A : Fr) (H : Hp), AWP _ _ _ _ A H → _) => hK; clear hK)); (repeat (rename (Fr → Hp → Prop) => K; clear K))) | (show Exists _; (repeat (rename (∀ (A : Fr) (H : Hp), AWP _ _ _ _ A H → _) => hK; clear hK)); (repeat (rename (Fr → Hp → Prop) => K; clear K))) | skip)
  · rw [show rk x = -2 * x - 1 from if_pos h]
    exact end_retV' rfl rfl rfl
  · rw [show rk x = 2 * x - 2 from if_neg h]
    exact end_retV' rfl rfl rfl
end Go.Proofs.Ytcfnbahpdlmcpaa
end
/- The reference's sources of choices: how they lie in memory, and what they answer. -/
section
namespace Go.Proofs.Ytcfnbahpdlmcpaa
open Go.Av
set_option linter.unusedSimpArgs false
set_option linter.unusedVariables false
attribute [local irreducible] AWP CallG Ob Br BrP Go.Av.Sub endQ AOps OpV AC thenA blkA opsVC opVC withA withArgs opsQ opQ CallQ withA2 withArgs2
/-- A number of the machine. -/
def r64 (x : Int) : Prop := -9223372036854775808 ≤ x ∧ x ≤ 9223372036854775807
/-- The bits that a mask keeps. -/
def andI (m c : Int) : Int := IntKind.i64.wrap ((BitVec.ofInt IntKind.i64.bits m &&& BitVec.ofInt IntKind.i64.bits c).toNat : Int)
theorem andI_ok (m c : Int) (hc : 0 ≤ c ∧ c ≤ 4294967295) : 0 ≤ andI m c ∧ andI m c ≤ c := by
  have e : (BitVec.ofInt IntKind.i64.bits c).toNat = c.toNat := by
    rw [BitVec.toNat_ofInt]
    show (c % (2 ^ 64 : Nat)).toNat = c.toNat
    have : c % ((2 ^ 64 : Nat) : Int) = c := Int.emod_eq_of_lt hc.1 (by show c < 18446744073709551616; omega)
    rw [this]
  have h : (BitVec.ofInt IntKind.i64.bits m &&& BitVec.ofInt IntKind.i64.bits c).toNat ≤ c.toNat := by
    rw [BitVec.toNat_and, e]
    exact Nat.and_le_right
  unfold andI
  rw [wrap64 (by omega)]
  omega
theorem nextByte_ok (d : Dc) : AC Try.prog 282 [.ref 1000000 0] (DH .i64 d) pM (postD .i64 fun r => ∃ v : Int, (0 ≤ v ∧ v ≤ 255) ∧ r = .v (.int .i64 (v))) := by
  have hb := d.hx d.i
  have e1 : IntKind.i64.wrap (d.xs.getD d.i 0) = d.xs.getD d.i 0 := wrap64 (by omega)
  refine ac_of_awp (N := ⟨_, pM, fun h hh => pM_low (Nat.lt_of_lt_of_le hh (by decide))⟩) Try.func282 rfl (by kernel_rfl) Try.ntmps282 (by simp) ?_
  simp only [argsFr, List.zipIdx_cons, List.zipIdx_nil, go_sem]
  unfold DH dF
  repeat' (first | refine awp_seqK fun K hK => ?_ | (refine awp_regionK 17179869197 rfl ?_; simp only [List.map_cons, List.map_nil]; simp (maxSteps := 1000000) (dsimp := false) (implicitDefEqProofs := false) (disch := omega) only [wrap64, go_sem, e1]) | (refine awp_regionQK 17179869197 (by kernel_rfl) (by kernel_rfl) (by kernel_rfl) ?_; simp only [List.map_cons, List.map_nil]; simp (maxSteps := 1000000) (dsimp := false) (implicitDefEqProofs := false) (disch := omega) only [wrap64, go_sem, e1]) | refine awp_block ?_ | (refine awp_skip ?_; simp only [go_sem, e1]) | (refine awp_exit ?_; simp only [go_sem, e1]) | (refine awp_ret ?_; try simp only [go_sem, e1]) | (refine awp_condP rfl ?_; try simp only [go_sem, e1]) | (refine BrP.mk (fun h => ?_) (fun h => ?_) <;> try simp (dsimp := false) (disch := omega) only [wrap64]) | (refine Br.mk (fun h => ?_) (fun h => ?_) <;> try simp (dsimp := false) (disch := omega) only [wrap64]) | refine Ob.mk (by first | omega | (intro _ _; rfl) | trivial | (intros; trivial) | assumption | (intro i hi; have h0 : i = 0 := (by omega); subst h0; first | rfl | trivial) | (intro i hi; have h0 : i = 0 ∨ i = 1 := (by omega); rcases h0 with rfl | rfl <;> rfl) | (intro i hi; have h0 : i = 0 ∨ i = 1 ∨ i = 2 := (by omega); rcases h0 with rfl | rfl | rfl <;> rfl)) ?_ | apply_assumption -exfalso -symm)
  all_goals (first | (show endQ _ _ _ _ _ _ _; (repeat (rename (∀ (A : Fr) (H : Hp), AWP _ _ _ _ A H → _) => hK; clear hK)); (repeat (rename (Fr → Hp → Prop) => K; clear K))) | (show Exists _; (repeat (rename (∀ (A : Fr) (H : Hp), AWP _ _ _ _ A H → _) => hK; clear hK)); (repeat (rename (Fr → Hp → Prop) => K; clear K))) | skip)
  · have hl := d.hl
    rw [wrap64 (x := (d.i : Int) + 1) (by omega)]
    refine end_postS (H' := DH .i64 ⟨d.xs, d.i + 1, IntKind.i64.wrap (IntKind.i64.wrap (d.h * 6364136223846793005) + 1442695040888963407), by omega, d.hx, d.hl⟩) rfl (Sub.toLF (by simp only [go_sem] <;> first | trivial | (simp only [Option.some.injEq, AV.v.injEq, AV.own.injEq, AV.list.injEq, Value.int.injEq, Value.bool.injEq, true_and, and_true]; first | omega | (simp; done)) | (simp; done) | (simp; omega)) (leF_upd rfl (bfE rfl (c3 rfl rfl rfl)) leF_emp id)) ⟨_, ⟨_, andI_ok _ 255 (by omega), rfl⟩, rfl⟩
  · refine end_postS (H' := DH .i64 ⟨d.xs, d.i, IntKind.i64.wrap (IntKind.i64.wrap (d.h * 6364136223846793005) + 1442695040888963407), d.hi, d.hx, d.hl⟩) rfl (Sub.toLF (by simp only [go_sem] <;> first | trivial | (simp only [Option.some.injEq, AV.v.injEq, AV.own.injEq, AV.list.injEq, Value.int.injEq, Value.bool.injEq, true_and, and_true]; first | omega | (simp; done)) | (simp; done) | (simp; omega)) (leF_upd rfl (bfE rfl (c3 rfl rfl rfl)) leF_emp id)) ⟨_, ⟨_, andI_ok _ 255 (by omega), rfl⟩, rfl⟩
/-- What `below` answers. -/
def belowQ (n v : Int) : Prop := (n ≤ 0 → v = 0) ∧ (0 < n → 0 ≤ v ∧ v < n)
theorem sBelow_ok (d : Dc) (n : Int) (hn : r64 n) : AC Try.prog 231 [.ref 1000000 0, .v (.int .i64 (n))] (DH .i64 d) pM (postD .i64 fun r => ∃ v : Int, belowQ n v ∧ r = .v (.int .i64 (v))) := by
  unfold r64 at hn
  refine ac_of_awp (N := ⟨_, pM, fun h hh => pM_low (Nat.lt_of_lt_of_le hh (by decide))⟩) Try.func231 rfl (by kernel_rfl) Try.ntmps231 (by simp) ?_
  simp only [argsFr, List.zipIdx_cons, List.zipIdx_nil, go_sem]
  unfold DH
  repeat' (first | ((first | refine atF (f := 282) ?_ | refine atQ (f := 282) ?_); (refine callD (by rfl) (nextByte_ok _) (by rintro _ ⟨v, _, rfl⟩ _; rfl) (fun r d' hq => ?_); obtain ⟨v, hv, rfl⟩ := hq) <;> simp (maxSteps := 1000000) (dsimp := false) (implicitDefEqProofs := false) (disch := omega) only [wrap64, go_sem]) | refine awp_seqK fun K hK => ?_ | (refine awp_regionK 5619 rfl ?_; simp only [List.map_cons, List.map_nil]; simp (maxSteps := 1000000) (dsimp := false) (implicitDefEqProofs := false) (disch := omega) only [wrap64, go_sem]) | (refine awp_regionQK 5619 (by kernel_rfl) (by kernel_rfl) (by kernel_rfl) ?_; simp only [List.map_cons, List.map_nil]; simp (maxSteps := 1000000) (dsimp := false) (implicitDefEqProofs := false) (disch := omega) only [wrap64, go_sem]) | refine awp_block ?_ | (refine awp_skip ?_; simp only [go_sem]) | (refine awp_exit ?_; simp only [go_sem]) | (refine awp_ret ?_; try simp only [go_sem]) | (refine awp_condP rfl ?_; try simp only [go_sem]) | (refine BrP.mk (fun h => ?_) (fun h => ?_) <;> try simp (dsimp := false) (disch := omega) only [wrap64]) | (refine Br.mk (fun h => ?_) (fun h => ?_) <;> try simp (dsimp := false) (disch := omega) only [wrap64]) | refine Ob.mk (by first | omega | (intro _ _; rfl) | trivial | (intros; trivial) | assumption | (intro i hi; have h0 : i = 0 := (by omega); subst h0; first | rfl | trivial) | (intro i hi; have h0 : i = 0 ∨ i = 1 := (by omega); rcases h0 with rfl | rfl <;> rfl) | (intro i hi; have h0 : i = 0 ∨ i = 1 ∨ i = 2 := (by omega); rcases h0 with rfl | rfl | rfl <;> rfl)) ?_ | apply_assumption -exfalso -symm)
  all_goals (first | (show endQ _ _ _ _ _ _ _; (repeat (rename (∀ (A : Fr) (H : Hp), AWP _ _ _ _ A H → _) => hK; clear hK)); (repeat (rename (Fr → Hp → Prop) => K; clear K))) | (show Exists _; (repeat (rename (∀ (A : Fr) (H : Hp), AWP _ _ _ _ A H → _) => hK; clear hK)); (repeat (rename (Fr → Hp → Prop) => K; clear K))) | skip)
  · exact end_post rfl rfl (Hp.le_refl _) ⟨d, ⟨0, ⟨fun _ => rfl, fun h => by omega⟩, rfl⟩, rfl⟩
  · exact end_post rfl rfl (Hp.le_refl _) ⟨_, ⟨_, ⟨fun h => by omega, fun h => tmod_in (by omega) h⟩, rfl⟩, rfl⟩
  · exact end_post rfl rfl (Hp.le_refl _) ⟨_, ⟨_, ⟨fun h => by omega, fun h => tmod_in (by omega) h⟩, rfl⟩, rfl⟩
theorem postD_mono {k : IntKind} {Q Q' : AV → Prop} (h : ∀ r, Q r → Q' r) (r : AV) (H : Hp) (hp : postD k Q r H) : postD k Q' r H := let ⟨d, a, b⟩ := hp; ⟨d, h r a, b⟩
theorem sBelowP_ok (d : Dc) (n : Int) (hn : 0 < n ∧ n ≤ 9223372036854775807) : AC Try.prog 231 [.ref 1000000 0, .v (.int .i64 (n))] (DH .i64 d) pM (postD .i64 fun r => ∃ v : Int, (0 ≤ v ∧ v < n) ∧ r = .v (.int .i64 (v))) :=
  (sBelow_ok d n (by unfold r64; omega)).mono (postD_mono fun r ⟨v, a, b⟩ => ⟨v, a.2 hn.1, b⟩)
theorem oneIn_ok (d : Dc) (n : Int) (hn : 0 < n ∧ n ≤ 9223372036854775807) : AC Try.prog 135 [.ref 1000000 0, .v (.int .i64 (n))] (DH .i64 d) pM (postD .i64 fun r => ∃ v : Bool, True ∧ r = .v (.bool (v))) := by
  refine ac_of_awp (N := ⟨_, pM, fun h hh => pM_low (Nat.lt_of_lt_of_le hh (by decide))⟩) Try.func135 rfl (by kernel_rfl) Try.ntmps135 (by simp) ?_
  simp only [argsFr, List.zipIdx_cons, List.zipIdx_nil, go_sem]
  unfold DH
  repeat' (first | ((first | refine atF (f := 231) ?_ | refine atQ (f := 231) ?_); (refine callD (by rfl) (sBelowP_ok _ _ (by omega)) (by rintro _ ⟨v, _, rfl⟩ _; rfl) (fun r d' hq => ?_); obtain ⟨v, hv, rfl⟩ := hq) <;> simp (maxSteps := 1000000) (dsimp := false) (implicitDefEqProofs := false) (disch := omega) only [wrap64, go_sem]) | refine awp_seqK fun K hK => ?_ | (refine awp_regionK 19 rfl ?_; simp only [List.map_cons, List.map_nil]; simp (maxSteps := 1000000) (dsimp := false) (implicitDefEqProofs := false) (disch := omega) only [wrap64, go_sem]) | (refine awp_regionQK 19 (by kernel_rfl) (by kernel_rfl) (by kernel_rfl) ?_; simp only [List.map_cons, List.map_nil]; simp (maxSteps := 1000000) (dsimp := false) (implicitDefEqProofs := false) (disch := omega) only [wrap64, go_sem]) | refine awp_block ?_ | (refine awp_skip ?_; simp only [go_sem]) | (refine awp_exit ?_; simp only [go_sem]) | (refine awp_ret ?_; try simp only [go_sem]) | (refine awp_condP rfl ?_; try simp only [go_sem]) | (refine BrP.mk (fun h => ?_) (fun h => ?_) <;> try simp (dsimp := false) (disch := omega) only [wrap64]) | (refine Br.mk (fun h => ?_) (fun h => ?_) <;> try simp (dsimp := false) (disch := omega) only [wrap64]) | refine Ob.mk (by first | omega | (intro _ _; rfl) | trivial | (intros; trivial) | assumption | (intro i hi; have h0 : i = 0 := (by omega); subst h0; first | rfl | trivial) | (intro i hi; have h0 : i = 0 ∨ i = 1 := (by omega); rcases h0 with rfl | rfl <;> rfl) | (intro i hi; have h0 : i = 0 ∨ i = 1 ∨ i = 2 := (by omega); rcases h0 with rfl | rfl | rfl <;> rfl)) ?_ | apply_assumption -exfalso -symm)
  all_goals (first | (show endQ _ _ _ _ _ _ _; (repeat (rename (∀ (A : Fr) (H : Hp), AWP _ _ _ _ A H → _) => hK; clear hK)); (repeat (rename (Fr → Hp → Prop) => K; clear K))) | (show Exists _; (repeat (rename (∀ (A : Fr) (H : Hp), AWP _ _ _ _ A H → _) => hK; clear hK)); (repeat (rename (Fr → Hp → Prop) => K; clear K))) | skip)
  exact end_post rfl rfl (Hp.le_refl _) ⟨_, ⟨_, rfl⟩, rfl⟩
theorem between_ok (d : Dc) (lo hi : Int) (hn : -1000000000000 ≤ lo ∧ lo ≤ hi ∧ hi ≤ 1000000000000) : AC Try.prog 137 [.ref 1000000 0, .v (.int .i64 (lo)), .v (.int .i64 (hi))] (DH .i64 d) pM (postD .i64 fun r => ∃ v : Int, (lo ≤ v ∧ v ≤ hi) ∧ r = .v (.int .i64 (v))) := by
  refine ac_of_awp (N := ⟨_, pM, fun h hh => pM_low (Nat.lt_of_lt_of_le hh (by decide))⟩) Try.func137 rfl (by kernel_rfl) Try.ntmps137 (by simp) ?_
  simp only [argsFr, List.zipIdx_cons, List.zipIdx_nil, go_sem]
  unfold DH
  repeat' (first | ((first | refine atF (f := 231) ?_ | refine atQ (f := 231) ?_); (refine callD (by rfl) (sBelowP_ok _ _ (by omega)) (by rintro _ ⟨v, _, rfl⟩ _; rfl) (fun r d' hq => ?_); obtain ⟨v, hv, rfl⟩ := hq) <;> simp (maxSteps := 1000000) (dsimp := false) (implicitDefEqProofs := false) (disch := omega) only [wrap64, go_sem]) | refine awp_seqK fun K hK => ?_ | (refine awp_regionK 71 rfl ?_; simp only [List.map_cons, List.map_nil]; simp (maxSteps := 1000000) (dsimp := false) (implicitDefEqProofs := false) (disch := omega) only [wrap64, go_sem]) | (refine awp_regionQK 71 (by kernel_rfl) (by kernel_rfl) (by kernel_rfl) ?_; simp only [List.map_cons, List.map_nil]; simp (maxSteps := 1000000) (dsimp := false) (implicitDefEqProofs := false) (disch := omega) only [wrap64, go_sem]) | refine awp_block ?_ | (refine awp_skip ?_; simp only [go_sem]) | (refine awp_exit ?_; simp only [go_sem]) | (refine awp_ret ?_; try simp only [go_sem]) | (refine awp_condP rfl ?_; try simp only [go_sem]) | (refine BrP.mk (fun h => ?_) (fun h => ?_) <;> try simp (dsimp := false) (disch := omega) only [wrap64]) | (refine Br.mk (fun h => ?_) (fun h => ?_) <;> try simp (dsimp := false) (disch := omega) only [wrap64]) | refine Ob.mk (by first | omega | (intro _ _; rfl) | trivial | (intros; trivial) | assumption | (intro i hi; have h0 : i = 0 := (by omega); subst h0; first | rfl | trivial) | (intro i hi; have h0 : i = 0 ∨ i = 1 := (by omega); rcases h0 with rfl | rfl <;> rfl) | (intro i hi; have h0 : i = 0 ∨ i = 1 ∨ i = 2 := (by omega); rcases h0 with rfl | rfl | rfl <;> rfl)) ?_ | apply_assumption -exfalso -symm)
  all_goals (first | (show endQ _ _ _ _ _ _ _; (repeat (rename (∀ (A : Fr) (H : Hp), AWP _ _ _ _ A H → _) => hK; clear hK)); (repeat (rename (Fr → Hp → Prop) => K; clear K))) | (show Exists _; (repeat (rename (∀ (A : Fr) (H : Hp), AWP _ _ _ _ A H → _) => hK; clear hK)); (repeat (rename (Fr → Hp → Prop) => K; clear K))) | skip)
  exact end_post rfl rfl (Hp.le_refl _) ⟨_, ⟨_, by omega, rfl⟩, rfl⟩
theorem extremeInt_ok (d : Dc) : AC Try.prog 136 [.ref 1000000 0] (DH .i64 d) pM (postD .i64 fun r => ∃ v : Int, r64 v ∧ r = .v (.int .i64 (v))) := by
  refine ac_of_awp (N := ⟨_, pM, fun h hh => pM_low (Nat.lt_of_lt_of_le hh (by decide))⟩) Try.func136 rfl (by kernel_rfl) Try.ntmps136 (by simp) ?_
  simp only [argsFr, List.zipIdx_cons, List.zipIdx_nil, go_sem]
  unfold DH
  repeat' (first | ((first | refine atF (f := 231) ?_ | refine atQ (f := 231) ?_); (refine callD (by rfl) (sBelowP_ok _ _ (by omega)) (by rintro _ ⟨v, _, rfl⟩ _; rfl) (fun r d' hq => ?_); obtain ⟨v, hv, rfl⟩ := hq) <;> simp (maxSteps := 1000000) (dsimp := false) (implicitDefEqProofs := false) (disch := omega) only [wrap64, go_sem]) | refine awp_seqK fun K hK => ?_ | (refine awp_regionK 5 rfl ?_; simp only [List.map_cons, List.map_nil]; simp (maxSteps := 1000000) (dsimp := false) (implicitDefEqProofs := false) (disch := omega) only [wrap64, go_sem]) | (refine awp_regionQK 5 (by kernel_rfl) (by kernel_rfl) (by kernel_rfl) ?_; simp only [List.map_cons, List.map_nil]; simp (maxSteps := 1000000) (dsimp := false) (implicitDefEqProofs := false) (disch := omega) only [wrap64, go_sem]) | refine awp_block ?_ | (refine awp_skip ?_; simp only [go_sem]) | (refine awp_exit ?_; simp only [go_sem]) | (refine awp_ret ?_; try simp only [go_sem]) | (refine awp_condP rfl ?_; try simp only [go_sem]) | (refine BrP.mk (fun h => ?_) (fun h => ?_) <;> try simp (dsimp := false) (disch := omega) only [wrap64]) | (refine Br.mk (fun h => ?_) (fun h => ?_) <;> try simp (dsimp := false) (disch := omega) only [wrap64]) | refine Ob.mk (by first | omega | (intro _ _; rfl) | trivial | (intros; trivial) | assumption | (intro i hi; have h0 : i = 0 := (by omega); subst h0; first | rfl | trivial) | (intro i hi; have h0 : i = 0 ∨ i = 1 := (by omega); rcases h0 with rfl | rfl <;> rfl) | (intro i hi; have h0 : i = 0 ∨ i = 1 ∨ i = 2 := (by omega); rcases h0 with rfl | rfl | rfl <;> rfl)) ?_ | apply_assumption -exfalso -symm)
  all_goals (first | (show endQ _ _ _ _ _ _ _; (repeat (rename (∀ (A : Fr) (H : Hp), AWP _ _ _ _ A H → _) => hK; clear hK)); (repeat (rename (Fr → Hp → Prop) => K; clear K))) | (show Exists _; (repeat (rename (∀ (A : Fr) (H : Hp), AWP _ _ _ _ A H → _) => hK; clear hK)); (repeat (rename (Fr → Hp → Prop) => K; clear K))) | skip)
  have e : v = 0 ∨ v = 1 ∨ v = 2 ∨ v = 3 ∨ v = 4 ∨ v = 5 ∨ v = 6 ∨ v = 7 ∨ v = 8 ∨ v = 9 := by omega
  rcases e with rfl | rfl | rfl | rfl | rfl | rfl | rfl | rfl | rfl | rfl
  all_goals exact end_post rfl rfl (Hp.le_upd rfl (Hp.le_emp _)) ⟨d', ⟨_, by unfold r64; first | omega | decide, rfl⟩, rfl⟩
theorem sDrawWord_ok (d : Dc) (g : Int) (hg : 0 ≤ g ∧ g ≤ 1000) : AC Try.prog 144 [.ref 1000000 0, .v (.int .i64 (g))] (DH .i64 d) pM (postDI iv 0 .i64 900 fun w => w.length ≤ 6 ∧ ∀ x ∈ w, -1000 ≤ x ∧ x ≤ 1000) := by
  refine ac_of_awp (N := ⟨_, pM, fun h hh => pM_low (Nat.lt_of_lt_of_le hh (by decide))⟩) Try.func144 rfl (by kernel_rfl) Try.ntmps144 (by simp) ?_
  simp only [argsFr, List.zipIdx_cons, List.zipIdx_nil, go_sem]
  unfold DH
  repeat' (first | ((first | refine atF (f := 231) ?_ | refine atQ (f := 231) ?_); (refine callD (by rfl) (sBelowP_ok _ _ (by omega)) (by rintro _ ⟨v, _, rfl⟩ _; rfl) (fun r d' hq => ?_); obtain ⟨v, hv, rfl⟩ := hq) <;> simp (maxSteps := 1000000) (dsimp := false) (implicitDefEqProofs := false) (disch := omega) only [wrap64, go_sem]) | refine awp_seqK fun K hK => ?_ | (refine awp_regionK 16842995 rfl ?_; simp only [List.map_cons, List.map_nil]; simp (maxSteps := 1000000) (dsimp := false) (implicitDefEqProofs := false) (disch := omega) only [wrap64, go_sem]) | (refine awp_regionQK 16842995 (by kernel_rfl) (by kernel_rfl) (by kernel_rfl) ?_; simp only [List.map_cons, List.map_nil]; simp (maxSteps := 1000000) (dsimp := false) (implicitDefEqProofs := false) (disch := omega) only [wrap64, go_sem]) | refine awp_block ?_ | (refine awp_skip ?_; simp only [go_sem]) | (refine awp_exit ?_; simp only [go_sem]) | (refine awp_ret ?_; try simp only [go_sem]) | (refine awp_condP rfl ?_; try simp only [go_sem]) | (refine BrP.mk (fun h => ?_) (fun h => ?_) <;> try simp (dsimp := false) (disch := omega) only [wrap64]) | (refine Br.mk (fun h => ?_) (fun h => ?_) <;> try simp (dsimp := false) (disch := omega) only [wrap64]) | refine Ob.mk (by first | omega | (intro _ _; rfl) | trivial | (intros; trivial) | assumption | (intro i hi; have h0 : i = 0 := (by omega); subst h0; first | rfl | trivial) | (intro i hi; have h0 : i = 0 ∨ i = 1 := (by omega); rcases h0 with rfl | rfl <;> rfl) | (intro i hi; have h0 : i = 0 ∨ i = 1 ∨ i = 2 := (by omega); rcases h0 with rfl | rfl | rfl <;> rfl)) ?_ | apply_assumption -exfalso -symm)
  all_goals (first | (show endQ _ _ _ _ _ _ _; (repeat (rename (∀ (A : Fr) (H : Hp), AWP _ _ _ _ A H → _) => hK; clear hK)); (repeat (rename (Fr → Hp → Prop) => K; clear K))) | (show Exists _; (repeat (rename (∀ (A : Fr) (H : Hp), AWP _ _ _ _ A H → _) => hK; clear hK)); (repeat (rename (Fr → Hp → Prop) => K; clear K))) | skip)
  obtain ⟨n, rfl⟩ := Int.eq_ofNat_of_zero_le hv.1
  refine awp_loop (ι := Nat × List Int × Dc) (fun k => [(6, .v (.int .i64 ((k.1 : Nat)))), (5, .own 8 0 1 k.2.1.length), (0, .ref 1000000 0), (1, .v (.int .i64 (g)))]) (fun k => (Hp.emp.upd 1000000 (.cells 3 (dF .i64 k.2.2))).upd 8 (.cells k.2.1.length (cM iv 0 k.2.1))) (fun k => k.1 + k.2.1.length ≤ 6 ∧ ∀ x ∈ k.2.1, -1000 ≤ x ∧ x ≤ 1000) (fun k => k.1) (n, [], d') ⟨by simp; omega, by simp⟩ (Sub.toL (by simp only [go_sem] <;> first | trivial | (simp only [Option.some.injEq, AV.v.injEq, AV.own.injEq, AV.list.injEq, Value.int.injEq, Value.bool.injEq, true_and, and_true]; first | omega | (simp; done)) | (simp; done) | (simp; omega)) (by (repeat' (first | exact Hp.le_emp _ | exact Hp.le_refl _ | refine Hp.le_upd ?_ ?_)); all_goals (first | rfl | (simp only [go_sem]; first | rfl | (refine cellsE ?_ ?_ <;> (simp)) | (simp))))) ?_
  rintro ⟨k, w, d1⟩ ⟨hk, hw⟩
  dsimp only at hk hw ⊢
  repeat' (first | ((first | refine atF (f := 231) ?_ | refine atQ (f := 231) ?_); (refine callD (by rfl) (sBelowP_ok _ _ (by omega)) (by rintro _ ⟨v, _, rfl⟩ _; rfl) (fun r d2 hq => ?_); obtain ⟨v2, hv2, rfl⟩ := hq) <;> simp (maxSteps := 1000000) (dsimp := false) (implicitDefEqProofs := false) (disch := omega) only [wrap64, go_sem]) | ((first | refine atF (f := 135) ?_ | refine atQ (f := 135) ?_); (refine callD (by rfl) (oneIn_ok _ _ (by omega)) (by rintro _ ⟨v, _, rfl⟩ _; rfl) (fun r d3 hq => ?_); obtain ⟨v3, hv3, rfl⟩ := hq) <;> simp (maxSteps := 1000000) (dsimp := false) (implicitDefEqProofs := false) (disch := omega) only [wrap64, go_sem]) | refine awp_seqK fun K hK => ?_ | (refine awp_regionK 16842995 rfl ?_; simp only [List.map_cons, List.map_nil]; simp (maxSteps := 1000000) (dsimp := false) (implicitDefEqProofs := false) (disch := omega) only [wrap64, go_sem]) | (refine awp_regionQK 16842995 (by kernel_rfl) (by kernel_rfl) (by kernel_rfl) ?_; simp only [List.map_cons, List.map_nil]; simp (maxSteps := 1000000) (dsimp := false) (implicitDefEqProofs := false) (disch := omega) only [wrap64, go_sem]) | refine awp_block ?_ | (refine awp_skip ?_; simp only [go_sem]) | (refine awp_exit ?_; simp only [go_sem]) | (refine awp_ret ?_; try simp only [go_sem]) | (refine awp_condP rfl ?_; try simp only [go_sem]) | (refine BrP.mk (fun h => ?_) (fun h => ?_) <;> try simp (dsimp := false) (disch := omega) only [wrap64]) | (refine Br.mk (fun h => ?_) (fun h => ?_) <;> try simp (dsimp := false) (disch := omega) only [wrap64]) | refine Ob.mk (by first | omega | (intro _ _; rfl) | trivial | (intros; trivial) | assumption | (intro i hi; have h0 : i = 0 := (by omega); subst h0; first | rfl | trivial) | (intro i hi; have h0 : i = 0 ∨ i = 1 := (by omega); rcases h0 with rfl | rfl <;> rfl) | (intro i hi; have h0 : i = 0 ∨ i = 1 ∨ i = 2 := (by omega); rcases h0 with rfl | rfl | rfl <;> rfl)) ?_ | apply_assumption -exfalso -symm)
  all_goals (first | (show endQ _ _ _ _ _ _ _; (repeat (rename (∀ (A : Fr) (H : Hp), AWP _ _ _ _ A H → _) => hK; clear hK)); (repeat (rename (Fr → Hp → Prop) => K; clear K))) | (show Exists _; (repeat (rename (∀ (A : Fr) (H : Hp), AWP _ _ _ _ A H → _) => hK; clear hK)); (repeat (rename (Fr → Hp → Prop) => K; clear K))) | skip)
  · refine ⟨(k - 1, w ++ [0 - (1 + v2)], d3), ⟨by simp; omega, fun x hx => ?_⟩, by omega, Sub.toL (by simp only [go_sem] <;> first | trivial | (simp only [Option.some.injEq, AV.v.injEq, AV.own.injEq, AV.list.injEq, Value.int.injEq, Value.bool.injEq, true_and, and_true]; first | omega | (simp; done)) | (simp; done) | (simp; omega)) (by (repeat' (first | exact Hp.le_emp _ | exact Hp.le_refl _ | refine Hp.le_upd ?_ ?_)); all_goals (first | rfl | (simp only [go_sem]; first | rfl | (refine cellsE ?_ ?_ <;> (simp)) | (simp))))⟩
    rcases List.mem_append.1 hx with h1 | h1
    · exact hw x h1
    · rw [List.mem_singleton.1 h1]; omega
  · refine ⟨(k - 1, w ++ [1 + v2], d3), ⟨by simp; omega, fun x hx => ?_⟩, by omega, Sub.toL (by simp only [go_sem] <;> first | trivial | (simp only [Option.some.injEq, AV.v.injEq, AV.own.injEq, AV.list.injEq, Value.int.injEq, Value.bool.injEq, true_and, and_true]; first | omega | (simp; done)) | (simp; done) | (simp; omega)) (by (repeat' (first | exact Hp.le_emp _ | exact Hp.le_refl _ | refine Hp.le_upd ?_ ?_)); all_goals (first | rfl | (simp only [go_sem]; first | rfl | (refine cellsE ?_ ?_ <;> (simp)) | (simp))))⟩
    rcases List.mem_append.1 hx with h1 | h1
    · exact hw x h1
    · rw [List.mem_singleton.1 h1]; omega
  all_goals exact end_DI (d := d1) (xs := w) rfl rfl rfl rfl rfl (fun _ _ => rfl) rfl (by decide) (by decide) (fun _ => trivial) ⟨by omega, hw⟩
theorem sDrawAnyWord_ok (d : Dc) : AC Try.prog 123 [.ref 1000000 0] (DH .i64 d) pM (postD .i64 fun r => ∃ w : List Int, (w.length ≤ 201 ∧ ∀ x ∈ w, r64 x) ∧ r = ints w) := by
  refine ac_of_awp (N := ⟨_, pM, fun h hh => pM_low (Nat.lt_of_lt_of_le hh (by decide))⟩) Try.func123 rfl (by kernel_rfl) Try.ntmps123 (by simp) ?_
  simp only [argsFr, List.zipIdx_cons, List.zipIdx_nil, go_sem]
  unfold DH
  repeat' (first | ((first | refine atF (f := 144) ?_ | refine atQ (f := 144) ?_); (refine callDI (by rfl) (sDrawWord_ok _ 3 (by omega)) (fun _ _ => rfl) (by decide) rfl (fun d1 w hw => ?_)) <;> simp (maxSteps := 1000000) (dsimp := false) (implicitDefEqProofs := false) (disch := omega) only [wrap64, go_sem]) | ((first | refine atF (f := 231) ?_ | refine atQ (f := 231) ?_); (refine callD (by rfl) (sBelowP_ok _ _ (by omega)) (by rintro _ ⟨v, _, rfl⟩ _; rfl) (fun r d2 hq => ?_); obtain ⟨v2, hv2, rfl⟩ := hq) <;> simp (maxSteps := 1000000) (dsimp := false) (implicitDefEqProofs := false) (disch := omega) only [wrap64, go_sem]) | ((first | refine atF (f := 135) ?_ | refine atQ (f := 135) ?_); (refine callD (by rfl) (oneIn_ok _ _ (by omega)) (by rintro _ ⟨v, _, rfl⟩ _; rfl) (fun r d3 hq => ?_); obtain ⟨v3, hv3, rfl⟩ := hq) <;> simp (maxSteps := 1000000) (dsimp := false) (implicitDefEqProofs := false) (disch := omega) only [wrap64, go_sem]) | ((first | refine atF (f := 137) ?_ | refine atQ (f := 137) ?_); (refine callD (by rfl) (between_ok _ _ _ (by omega)) (by rintro _ ⟨v, _, rfl⟩ _; rfl) (fun r d2 hq => ?_); obtain ⟨v2, hv2, rfl⟩ := hq) <;> simp (maxSteps := 1000000) (dsimp := false) (implicitDefEqProofs := false) (disch := omega) only [wrap64, go_sem]) | ((first | refine atF (f := 136) ?_ | refine atQ (f := 136) ?_); (refine callD (by rfl) (extremeInt_ok _) (by rintro _ ⟨v, _, rfl⟩ _; rfl) (fun r d2 hq => ?_); obtain ⟨v4, hv4, rfl⟩ := hq) <;> simp (maxSteps := 1000000) (dsimp := false) (implicitDefEqProofs := false) (disch := omega) only [wrap64, go_sem]) | refine awp_seqK fun K hK => ?_ | (refine awp_regionK 2164393613 rfl ?_; simp only [List.map_cons, List.map_nil]; simp (maxSteps := 1000000) (dsimp := false) (implicitDefEqProofs := false) (disch := omega) only [wrap64, go_sem]) | (refine awp_regionQK 2164393613 (by kernel_rfl) (by kernel_rfl) (by kernel_rfl) ?_; simp only [List.map_cons, List.map_nil]; simp (maxSteps := 1000000) (dsimp := false) (implicitDefEqProofs := false) (disch := omega) only [wrap64, go_sem]) | refine awp_block ?_ | (refine awp_skip ?_; simp only [go_sem]) | (refine awp_exit ?_; simp only [go_sem]) | (refine awp_ret ?_; try simp only [go_sem]) | (refine awp_condP rfl ?_; try simp only [go_sem]) | (refine BrP.mk (fun h => ?_) (fun h => ?_) <;> try simp (dsimp := false) (disch := omega) only [wrap64]) | (refine Br.mk (fun h => ?_) (fun h => ?_) <;> try simp (dsimp := false) (disch := omega) only [wrap64]) | refine Ob.mk (by first | omega | (intro _ _; rfl) | trivial | (intros; trivial) | assumption | (intro i hi; have h0 : i = 0 := (by omega); subst h0; first | rfl | trivial) | (intro i hi; have h0 : i = 0 ∨ i = 1 := (by omega); rcases h0 with rfl | rfl <;> rfl) | (intro i hi; have h0 : i = 0 ∨ i = 1 ∨ i = 2 := (by omega); rcases h0 with rfl | rfl | rfl <;> rfl)) ?_ | apply_assumption -exfalso -symm)
  all_goals (first | (show endQ _ _ _ _ _ _ _; (repeat (rename (∀ (A : Fr) (H : Hp), AWP _ _ _ _ A H → _) => hK; clear hK)); (repeat (rename (Fr → Hp → Prop) => K; clear K))) | (show Exists _; (repeat (rename (∀ (A : Fr) (H : Hp), AWP _ _ _ _ A H → _) => hK; clear hK)); (repeat (rename (Fr → Hp → Prop) => K; clear K))) | skip)
  · obtain ⟨hw1, hw2⟩ := hw
    refine end_DF (D := fun x => x = 900) rfl rfl rfl (fits_I rfl rfl rfl (by simp)) (by decide) ⟨_, ⟨by simp; omega, fun x hx => ?_⟩, rfl⟩
    rcases List.mem_append.1 hx with h1 | h1
    · have := hw2 x h1; unfold r64; omega
    · rw [List.mem_singleton.1 h1]; exact hv4
  · obtain ⟨hw1, hw2⟩ := hw
    refine end_DF (D := fun x => x = 900) rfl rfl rfl (fits_I rfl rfl rfl (by simp)) (by decide) ⟨_, ⟨by simp; omega, fun x hx => ?_⟩, rfl⟩
    rcases List.mem_append.1 hx with h1 | h1
    · have := hw2 x h1; unfold r64; omega
    · rw [List.mem_singleton.1 h1]; unfold r64; omega
  · refine awp_loop (ι := List Int × Dc) (fun k => [(3, .own 900 0 1 k.1.length), (0, .ref 1000000 0)]) (fun k => (Hp.emp.upd 1000000 (.cells 3 (dF .i64 k.2))).upd 900 (.cells k.1.length (cM iv 0 k.1))) (fun k => k.1.length ≤ 201 ∧ ∀ x ∈ k.1, -1000 ≤ x ∧ x ≤ 1000) (fun k => 201 - k.1.length) (w, d2) ⟨by have := hw.1; dsimp only; omega, hw.2⟩ (Sub.toL (by simp only [go_sem] <;> first | trivial | (simp only [Option.some.injEq, AV.v.injEq, AV.own.injEq, AV.list.injEq, Value.int.injEq, Value.bool.injEq, true_and, and_true]; first | omega | (simp; done)) | (simp; done) | (simp; omega)) (by (repeat' (first | exact Hp.le_emp _ | exact Hp.le_refl _ | refine Hp.le_upd ?_ ?_)); all_goals (first | rfl | (simp only [go_sem]; first | rfl | (refine cellsE ?_ ?_ <;> (simp)) | (simp))))) ?_
    rintro ⟨w, d4⟩ ⟨hk, hw⟩
    dsimp only at hk hw ⊢
    repeat' (first | ((first | refine atF (f := 231) ?_ | refine atQ (f := 231) ?_); (refine callD (by rfl) (sBelowP_ok _ _ (by omega)) (by rintro _ ⟨v, _, rfl⟩ _; rfl) (fun r d2 hq => ?_); obtain ⟨v2, hv2, rfl⟩ := hq) <;> simp (maxSteps := 1000000) (dsimp := false) (implicitDefEqProofs := false) (disch := omega) only [wrap64, go_sem]) | ((first | refine atF (f := 137) ?_ | refine atQ (f := 137) ?_); (refine callD (by rfl) (between_ok _ _ _ (by omega)) (by rintro _ ⟨v, _, rfl⟩ _; rfl) (fun r d5 hq => ?_); obtain ⟨v5, hv5, rfl⟩ := hq) <;> simp (maxSteps := 1000000) (dsimp := false) (implicitDefEqProofs := false) (disch := omega) only [wrap64, go_sem]) | refine awp_seqK fun K hK => ?_ | (refine awp_regionK 2164393613 rfl ?_; simp only [List.map_cons, List.map_nil]; simp (maxSteps := 1000000) (dsimp := false) (implicitDefEqProofs := false) (disch := omega) only [wrap64, go_sem]) | (refine awp_regionQK 2164393613 (by kernel_rfl) (by kernel_rfl) (by kernel_rfl) ?_; simp only [List.map_cons, List.map_nil]; simp (maxSteps := 1000000) (dsimp := false) (implicitDefEqProofs := false) (disch := omega) only [wrap64, go_sem]) | refine awp_block ?_ | (refine awp_skip ?_; simp only [go_sem]) | (refine awp_exit ?_; simp only [go_sem]) | (refine awp_ret ?_; try simp only [go_sem]) | (refine awp_condP rfl ?_; try simp only [go_sem]) | (refine BrP.mk (fun h => ?_) (fun h => ?_) <;> try simp (dsimp := false) (disch := omega) only [wrap64]) | (refine Br.mk (fun h => ?_) (fun h => ?_) <;> try simp (dsimp := false) (disch := omega) only [wrap64]) | refine Ob.mk (by first | omega | (intro _ _; rfl) | trivial | (intros; trivial) | assumption | (intro i hi; have h0 : i = 0 := (by omega); subst h0; first | rfl | trivial) | (intro i hi; have h0 : i = 0 ∨ i = 1 := (by omega); rcases h0 with rfl | rfl <;> rfl) | (intro i hi; have h0 : i = 0 ∨ i = 1 ∨ i = 2 := (by omega); rcases h0 with rfl | rfl | rfl <;> rfl)) ?_ | apply_assumption -exfalso -symm)
    all_goals (first | (show endQ _ _ _ _ _ _ _; (repeat (rename (∀ (A : Fr) (H : Hp), AWP _ _ _ _ A H → _) => hK; clear hK)); (repeat (rename (Fr → Hp → Prop) => K; clear K))) | (show Exists _; (repeat (rename (∀ (A : Fr) (H : Hp), AWP _ _ _ _ A H → _) => hK; clear hK)); (repeat (rename (Fr → Hp → Prop) => K; clear K))) | skip)
    · refine ⟨(w ++ [1 + v2], d2), ⟨by simp; omega, fun x hx => ?_⟩, by simp; omega, Sub.toL (by simp only [go_sem] <;> first | trivial | (simp only [Option.some.injEq, AV.v.injEq, AV.own.injEq, AV.list.injEq, Value.int.injEq, Value.bool.injEq, true_and, and_true]; first | omega | (simp; done)) | (simp; done) | (simp; omega)) (by (repeat' (first | exact Hp.le_emp _ | exact Hp.le_refl _ | refine Hp.le_upd ?_ ?_)); all_goals (first | rfl | (simp only [go_sem]; first | rfl | (refine cellsE ?_ ?_ <;> (simp)) | (simp))))⟩
      rcases List.mem_append.1 hx with h1 | h1
      · exact hw x h1
      · rw [List.mem_singleton.1 h1]; omega
    · exact end_DF (D := fun x => x = 900) rfl rfl rfl (fits_I rfl rfl rfl rfl) (by decide) ⟨_, ⟨hk, fun x hx => by have := hw x hx; unfold r64; omega⟩, rfl⟩
  · omega
  · exact end_DF (D := fun x => x = 900) rfl rfl rfl (fits_I rfl rfl rfl rfl) (by decide) ⟨_, ⟨by have := hw.1; omega, fun x hx => by have := hw.2 x hx; unfold r64; omega⟩, rfl⟩
theorem newSource_ok (xs : List Int) (hx : ∀ j, 0 ≤ xs.getD j 0 ∧ xs.getD j 0 ≤ 255) (hl : xs.length ≤ 4096) : AC Try.prog 122 [bts xs] Hp.emp (fun _ => false) (postD .i64 fun r => r = .ref 1000000 0) := by
  refine ac_of_awp (N := ⟨_, fun _ => false, fun _ _ => rfl⟩) Try.func122 rfl (by kernel_rfl) Try.ntmps122 (by simp) ?_
  simp only [argsFr, List.zipIdx_cons, List.zipIdx_nil, go_sem]
  unfold bts
  repeat' (first | refine awp_seqK fun K hK => ?_ | (refine awp_regionK 2077 rfl ?_; simp only [List.map_cons, List.map_nil]; simp (maxSteps := 1000000) (dsimp := false) (implicitDefEqProofs := false) (disch := omega) only [wrap64, go_sem]) | (refine awp_regionQK 2077 (by kernel_rfl) (by kernel_rfl) (by kernel_rfl) ?_; simp only [List.map_cons, List.map_nil]; simp (maxSteps := 1000000) (dsimp := false) (implicitDefEqProofs := false) (disch := omega) only [wrap64, go_sem]) | refine awp_block ?_ | (refine awp_skip ?_; simp only [go_sem]) | (refine awp_exit ?_; simp only [go_sem]) | (refine awp_ret ?_; try simp only [go_sem]) | (refine awp_condP rfl ?_; try simp only [go_sem]) | (refine BrP.mk (fun h => ?_) (fun h => ?_) <;> try simp (dsimp := false) (disch := omega) only [wrap64]) | (refine Br.mk (fun h => ?_) (fun h => ?_) <;> try simp (dsimp := false) (disch := omega) only [wrap64]) | refine Ob.mk (by first | omega | (intro _ _; rfl) | trivial | (intros; trivial) | assumption | (intro i hi; have h0 : i = 0 := (by omega); subst h0; first | rfl | trivial) | (intro i hi; have h0 : i = 0 ∨ i = 1 := (by omega); rcases h0 with rfl | rfl <;> rfl) | (intro i hi; have h0 : i = 0 ∨ i = 1 ∨ i = 2 := (by omega); rcases h0 with rfl | rfl | rfl <;> rfl)) ?_ | apply_assumption -exfalso -symm)
  all_goals (first | (show endQ _ _ _ _ _ _ _; (repeat (rename (∀ (A : Fr) (H : Hp), AWP _ _ _ _ A H → _) => hK; clear hK)); (repeat (rename (Fr → Hp → Prop) => K; clear K))) | (show Exists _; (repeat (rename (∀ (A : Fr) (H : Hp), AWP _ _ _ _ A H → _) => hK; clear hK)); (repeat (rename (Fr → Hp → Prop) => K; clear K))) | skip)
  refine awp_loop (ι := Nat × Int) (fun k => [(4, .v (.int .i64 (k.1))), (3, .v (.int .i64 (k.2))), (0, bts xs)]) (fun k => Hp.emp) (fun k => k.1 ≤ xs.length ∧ 0 ≤ k.2 ∧ k.2 ≤ 1073741823) (fun k => xs.length - k.1) (0, 590033 + (xs.length : Int)) ⟨Nat.zero_le _, by dsimp only; omega, by dsimp only; omega⟩ (Sub.toL (by simp only [go_sem] <;> first | trivial | (simp only [Option.some.injEq, AV.v.injEq, AV.own.injEq, AV.list.injEq, Value.int.injEq, Value.bool.injEq, true_and, and_true]; first | omega | (simp; done)) | (simp; done) | (simp; omega)) (by (repeat' (first | exact Hp.le_emp _ | exact Hp.le_refl _ | refine Hp.le_upd ?_ ?_)); all_goals (first | rfl | (simp only [go_sem]; first | rfl | (refine cellsE ?_ ?_ <;> (simp)) | (simp))))) ?_
  rintro ⟨k, z⟩ hk
  dsimp only at hk ⊢
  have hxk := hx k
  have e1 : IntKind.i64.wrap (xs.getD k 0) = xs.getD k 0 := wrap64 (by omega)
  repeat' (first | refine awp_seqK fun K hK => ?_ | (refine awp_regionK 2077 rfl ?_; simp only [List.map_cons, List.map_nil]; simp (maxSteps := 1000000) (dsimp := false) (implicitDefEqProofs := false) (disch := omega) only [wrap64, go_sem, e1, List.getElem?_cons_zero, List.getElem?_cons_succ]) | (refine awp_regionQK 2077 (by kernel_rfl) (by kernel_rfl) (by kernel_rfl) ?_; simp only [List.map_cons, List.map_nil]; simp (maxSteps := 1000000) (dsimp := false) (implicitDefEqProofs := false) (disch := omega) only [wrap64, go_sem, e1, List.getElem?_cons_zero, List.getElem?_cons_succ]) | refine awp_block ?_ | (refine awp_skip ?_; simp only [go_sem, e1, List.getElem?_cons_zero, List.getElem?_cons_succ]) | (refine awp_exit ?_; simp only [go_sem, e1, List.getElem?_cons_zero, List.getElem?_cons_succ]) | (refine awp_ret ?_; try simp only [go_sem, e1, List.getElem?_cons_zero, List.getElem?_cons_succ]) | (refine awp_condP rfl ?_; try simp only [go_sem, e1, List.getElem?_cons_zero, List.getElem?_cons_succ]) | (refine BrP.mk (fun h => ?_) (fun h => ?_) <;> try simp (dsimp := false) (disch := omega) only [wrap64]) | (refine Br.mk (fun h => ?_) (fun h => ?_) <;> try simp (dsimp := false) (disch := omega) only [wrap64]) | refine Ob.mk (by first | omega | (intro _ _; rfl) | trivial | (intros; trivial) | assumption | (intro i hi; have h0 : i = 0 := (by omega); subst h0; first | rfl | trivial) | (intro i hi; have h0 : i = 0 ∨ i = 1 := (by omega); rcases h0 with rfl | rfl <;> rfl) | (intro i hi; have h0 : i = 0 ∨ i = 1 ∨ i = 2 := (by omega); rcases h0 with rfl | rfl | rfl <;> rfl)) ?_ | apply_assumption -exfalso -symm)
  all_goals (first | (show endQ _ _ _ _ _ _ _; (repeat (rename (∀ (A : Fr) (H : Hp), AWP _ _ _ _ A H → _) => hK; clear hK)); (repeat (rename (Fr → Hp → Prop) => K; clear K))) | (show Exists _; (repeat (rename (∀ (A : Fr) (H : Hp), AWP _ _ _ _ A H → _) => hK; clear hK)); (repeat (rename (Fr → Hp → Prop) => K; clear K))) | skip)
  · exact ⟨(k + 1, andI (z * 337 + xs.getD k 0 + 11) 1073741823), ⟨by dsimp only; omega, andI_ok _ _ (by omega)⟩, by dsimp only; omega, Sub.toL (by simp only [go_sem] <;> first | trivial | (simp only [Option.some.injEq, AV.v.injEq, AV.own.injEq, AV.list.injEq, Value.int.injEq, Value.bool.injEq, true_and, and_true]; first | omega | (simp; done)) | (simp; done) | (simp; omega)) (by (repeat' (first | exact Hp.le_emp _ | exact Hp.le_refl _ | refine Hp.le_upd ?_ ?_)); all_goals (first | rfl | (simp only [go_sem]; first | rfl | (refine cellsE ?_ ?_ <;> (simp)) | (simp))))⟩
  · refine end_postS (H' := DH .i64 ⟨xs, 0, z, Nat.zero_le _, hx, hl⟩) rfl (Sub.layM (fun h => if h = 1000000 then some 27 else none) rfl (lay_cons ⟨_, rfl, .ref rfl⟩ lay_nil) (layF_upd (g := 27) (n := 3) rfl rfl (fun i hi => ?_) layF_emp) ?_) ⟨_, rfl, rfl⟩
    · match i, hi with
      | 0, _ => exact .plain trivial
      | 1, _ => exact .plain trivial
      | 2, _ => exact .plain trivial
    · intro x y k hx hy h1 h2
      split at h1
      · split at h2
        · omega
        · cases h2
      · cases h1
end Go.Proofs.Ytcfnbahpdlmcpaa
end
/- Free reduction, and the lengths of words: both texts. -/
section
namespace Go.Proofs.Ytcfnbahpdlmcpaa
open Go.Av
set_option linter.unusedSimpArgs false
set_option linter.unusedVariables false
attribute [local irreducible] AWP CallG Ob Br BrP Go.Av.Sub endQ AOps OpV AC thenA blkA opsVC opVC withA withArgs opsQ opQ CallQ withA2 withArgs2
open Go.Wd (fr frS)
theorem cells_take (o : List Int) (m : Nat) : ∀ i, i < m → cM iv 0 o i = cM iv 0 (o.take m) i := fun i hi => by
  unfold cM; rw [Go.Wd.getD_take o hi]
theorem implFreeReduce_ok (w : List Int) (hl : w.length ≤ 1048576) (hb : ∀ j, -1000 ≤ w.getD j 0 ∧ w.getD j 0 ≤ 1000) (d : Nat) : AC Try.prog 125 [ints w] Hp.emp (fun _ => false) (retI d (fr w)) := by
  refine ac_of_awp (N := ⟨_, fun _ => false, fun _ _ => rfl⟩) Try.func125 rfl (by kernel_rfl) Try.ntmps125 (by simp) ?_
  simp only [argsFr, List.zipIdx_cons, List.zipIdx_nil, go_sem]
  repeat' (first | refine awp_seqK fun K hK => ?_ | (refine awp_regionK 67110893 rfl ?_; simp only [List.map_cons, List.map_nil]; simp (maxSteps := 1000000) (dsimp := false) (implicitDefEqProofs := false) (disch := omega) only [wrap64, go_sem]) | (refine awp_regionQK 67110893 (by kernel_rfl) (by kernel_rfl) (by kernel_rfl) ?_; simp only [List.map_cons, List.map_nil]; simp (maxSteps := 1000000) (dsimp := false) (implicitDefEqProofs := false) (disch := omega) only [wrap64, go_sem]) | refine awp_block ?_ | (refine awp_skip ?_; simp only [go_sem]) | (refine awp_exit ?_; simp only [go_sem]) | (refine awp_ret ?_; try simp only [go_sem]) | (refine awp_condP rfl ?_; try simp only [go_sem]) | (refine BrP.mk (fun h => ?_) (fun h => ?_) <;> try simp (dsimp := false) (disch := omega) only [wrap64]) | (refine Br.mk (fun h => ?_) (fun h => ?_) <;> try simp (dsimp := false) (disch := omega) only [wrap64]) | refine Ob.mk (by first | omega | (intro _ _; rfl) | trivial | (intros; trivial) | assumption | (intro i hi; have h0 : i = 0 := (by omega); subst h0; first | rfl | trivial) | (intro i hi; have h0 : i = 0 ∨ i = 1 := (by omega); rcases h0 with rfl | rfl <;> rfl) | (intro i hi; have h0 : i = 0 ∨ i = 1 ∨ i = 2 := (by omega); rcases h0 with rfl | rfl | rfl <;> rfl)) ?_ | apply_assumption -exfalso -symm)
  all_goals (first | (show endQ _ _ _ _ _ _ _; (repeat (rename (∀ (A : Fr) (H : Hp), AWP _ _ _ _ A H → _) => hK; clear hK)); (repeat (rename (Fr → Hp → Prop) => K; clear K))) | (show Exists _; (repeat (rename (∀ (A : Fr) (H : Hp), AWP _ _ _ _ A H → _) => hK; clear hK)); (repeat (rename (Fr → Hp → Prop) => K; clear K))) | skip)
  refine awp_loop (ι := Nat) (fun k => [(9, .v (.int .i64 (k))), (8, .v (.int .i64 (w.length))), (7, .list false 1 (w).length (cM iv 0 (w))), (3, .own 40 0 1 (fr (w.take k)).length)]) (fun k => Hp.emp.upd 40 (.cells (fr (w.take k)).length (cM iv 0 (fr (w.take k))))) (fun k => k ≤ w.length) (fun k => w.length - k) 0 ?_ (Sub.trans (Sub.nil (i := 3) 40 1 (cM iv 0 []) rfl rfl) (Sub.toL (by simp only [go_sem] <;> first | trivial | (simp only [Option.some.injEq, AV.v.injEq, AV.own.injEq, AV.list.injEq, Value.int.injEq, Value.bool.injEq, true_and, and_true]; first | omega | (simp [fr]; done)) | (simp [fr]; done) | (simp [fr]; omega)) (by (repeat' (first | exact Hp.le_emp _ | exact Hp.le_refl _ | refine Hp.le_upd ?_ ?_)); all_goals (first | rfl | (simp only [go_sem]; first | rfl | (refine cellsE ?_ ?_ <;> (simp [fr])) | (simp [fr])))))) ?_
  · exact Nat.zero_le _
  intro k hk
  have h1 := hb k
  have h2 := Go.Wd.fr_len (w.take k)
  rw [List.length_take] at h2
  obtain ⟨o, ho⟩ : ∃ o, o = fr (w.take k) := ⟨_, rfl⟩
  have h3 : k < w.length → fr (w.take (k + 1)) = frS o (w.getD k 0) := fun h => by rw [ho]; exact Go.Wd.fr_snoc w k h
  rw [← ho] at h2 ⊢
  have e1 : ((o.length : Int) - 1).toNat = o.length - 1 := by omega
  repeat' (first | refine awp_seqK fun K hK => ?_ | (refine awp_regionK 67110893 rfl ?_; simp only [List.map_cons, List.map_nil]; simp (maxSteps := 1000000) (dsimp := false) (implicitDefEqProofs := false) (disch := omega) only [wrap64, go_sem, e1]) | (refine awp_regionQK 67110893 (by kernel_rfl) (by kernel_rfl) (by kernel_rfl) ?_; simp only [List.map_cons, List.map_nil]; simp (maxSteps := 1000000) (dsimp := false) (implicitDefEqProofs := false) (disch := omega) only [wrap64, go_sem, e1]) | refine awp_block ?_ | (refine awp_skip ?_; simp only [go_sem, e1]) | (refine awp_exit ?_; simp only [go_sem, e1]) | (refine awp_ret ?_; try simp only [go_sem, e1]) | (refine awp_condP rfl ?_; try simp only [go_sem, e1]) | (refine BrP.mk (fun h => ?_) (fun h => ?_) <;> try simp (dsimp := false) (disch := omega) only [wrap64]) | (refine Br.mk (fun h => ?_) (fun h => ?_) <;> try simp (dsimp := false) (disch := omega) only [wrap64]) | refine Ob.mk (by first | omega | (intro _ _; rfl) | trivial | (intros; trivial) | assumption | (intro i hi; have h0 : i = 0 := (by omega); subst h0; first | rfl | trivial) | (intro i hi; have h0 : i = 0 ∨ i = 1 := (by omega); rcases h0 with rfl | rfl <;> rfl) | (intro i hi; have h0 : i = 0 ∨ i = 1 ∨ i = 2 := (by omega); rcases h0 with rfl | rfl | rfl <;> rfl)) ?_ | apply_assumption -exfalso -symm)
  all_goals (first | (show endQ _ _ _ _ _ _ _; (repeat (rename (∀ (A : Fr) (H : Hp), AWP _ _ _ _ A H → _) => hK; clear hK)); (repeat (rename (Fr → Hp → Prop) => K; clear K))) | (show Exists _; (repeat (rename (∀ (A : Fr) (H : Hp), AWP _ _ _ _ A H → _) => hK; clear hK)); (repeat (rename (Fr → Hp → Prop) => K; clear K))) | skip)
  · have e : fr (w.take (k + 1)) = o.take (o.length - 1) := by rw [h3 (by omega)]; unfold frS; rw [if_pos ⟨by omega, by omega⟩]
    have el : (o.take (o.length - 1)).length = o.length - 1 := by rw [List.length_take]; omega
    refine ⟨k + 1, by omega, by omega, (Sub.shrink (h := 40) (m := o.length - 1) rfl (by omega)).trans ?_⟩
    rw [e, el]
    exact Sub.toLF (by simp only [go_sem] <;> first | trivial | (simp only [Option.some.injEq, AV.v.injEq, AV.own.injEq, AV.list.injEq, Value.int.injEq, Value.bool.injEq, true_and, and_true]; first | omega | (simp; done)) | (simp; done) | (simp; omega)) (leF_upd rfl (bfE rfl (cells_take o _)) leF_emp id)
  · have e : fr (w.take (k + 1)) = o ++ [w.getD k 0] := by rw [h3 (by omega)]; unfold frS; rw [if_neg (by omega)]
    exact ⟨k + 1, by omega, by omega, Sub.toL (by simp only [go_sem] <;> first | trivial | (simp only [Option.some.injEq, AV.v.injEq, AV.own.injEq, AV.list.injEq, Value.int.injEq, Value.bool.injEq, true_and, and_true]; first | omega | (simp [e]; done)) | (simp [e]; done) | (simp [e]; omega)) (by (repeat' (first | exact Hp.le_emp _ | exact Hp.le_refl _ | refine Hp.le_upd ?_ ?_)); all_goals (first | rfl | (simp only [go_sem]; first | rfl | (refine cellsE ?_ ?_ <;> (simp [e])) | (simp [e]))))⟩
  · have e : fr (w.take (k + 1)) = o ++ [w.getD k 0] := by rw [h3 (by omega)]; unfold frS; rw [if_neg (by omega)]
    exact ⟨k + 1, by omega, by omega, Sub.toL (by simp only [go_sem] <;> first | trivial | (simp only [Option.some.injEq, AV.v.injEq, AV.own.injEq, AV.list.injEq, Value.int.injEq, Value.bool.injEq, true_and, and_true]; first | omega | (simp [e]; done)) | (simp [e]; done) | (simp [e]; omega)) (by (repeat' (first | exact Hp.le_emp _ | exact Hp.le_refl _ | refine Hp.le_upd ?_ ?_)); all_goals (first | rfl | (simp only [go_sem]; first | rfl | (refine cellsE ?_ ?_ <;> (simp [e])) | (simp [e]))))⟩
  · have e : k = w.length := by omega
    subst e
    rw [List.take_length] at ho
    rw [← ho]
    exact end_retI' rfl rfl rfl rfl rfl rfl
theorem specFreeReduce_ok (w : List Int) (hl : w.length ≤ 1048576) (hb : ∀ j, -1000 ≤ w.getD j 0 ∧ w.getD j 0 ≤ 1000) (d : Nat) : AC Try.prog 127 [ints w] Hp.emp (fun _ => false) (retI d (fr w)) := by
  refine ac_of_awp (N := ⟨_, fun _ => false, fun _ _ => rfl⟩) Try.func127 rfl (by kernel_rfl) Try.ntmps127 (by simp) ?_
  simp only [argsFr, List.zipIdx_cons, List.zipIdx_nil, go_sem]
  repeat' (first | refine awp_seqK fun K hK => ?_ | (refine awp_regionK 268435997 rfl ?_; simp only [List.map_cons, List.map_nil]; simp (maxSteps := 1000000) (dsimp := false) (implicitDefEqProofs := false) (disch := omega) only [wrap64, go_sem]) | (refine awp_regionQK 268435997 (by kernel_rfl) (by kernel_rfl) (by kernel_rfl) ?_; simp only [List.map_cons, List.map_nil]; simp (maxSteps := 1000000) (dsimp := false) (implicitDefEqProofs := false) (disch := omega) only [wrap64, go_sem]) | refine awp_block ?_ | (refine awp_skip ?_; simp only [go_sem]) | (refine awp_exit ?_; simp only [go_sem]) | (refine awp_ret ?_; try simp only [go_sem]) | (refine awp_condP rfl ?_; try simp only [go_sem]) | (refine BrP.mk (fun h => ?_) (fun h => ?_) <;> try simp (dsimp := false) (disch := omega) only [wrap64]) | (refine Br.mk (fun h => ?_) (fun h => ?_) <;> try simp (dsimp := false) (disch := omega) only [wrap64]) | refine Ob.mk (by first | omega | (intro _ _; rfl) | trivial | (intros; trivial) | assumption | (intro i hi; have h0 : i = 0 := (by omega); subst h0; first | rfl | trivial) | (intro i hi; have h0 : i = 0 ∨ i = 1 := (by omega); rcases h0 with rfl | rfl <;> rfl) | (intro i hi; have h0 : i = 0 ∨ i = 1 ∨ i = 2 := (by omega); rcases h0 with rfl | rfl | rfl <;> rfl)) ?_ | apply_assumption -exfalso -symm)
  all_goals (first | (show endQ _ _ _ _ _ _ _; (repeat (rename (∀ (A : Fr) (H : Hp), AWP _ _ _ _ A H → _) => hK; clear hK)); (repeat (rename (Fr → Hp → Prop) => K; clear K))) | (show Exists _; (repeat (rename (∀ (A : Fr) (H : Hp), AWP _ _ _ _ A H → _) => hK; clear hK)); (repeat (rename (Fr → Hp → Prop) => K; clear K))) | skip)
  refine awp_loop (ι := Nat) (fun k => [(4, .v (.int .i64 (k))), (0, .list false 1 (w).length (cM iv 0 (w))), (3, .own 5 0 1 (fr (w.take k)).length)]) (fun k => Hp.emp.upd 5 (.cells (fr (w.take k)).length (cM iv 0 (fr (w.take k))))) (fun k => k ≤ w.length) (fun k => w.length - k) 0 ?_ (Sub.toL (by simp only [go_sem] <;> first | trivial | (simp only [Option.some.injEq, AV.v.injEq, AV.own.injEq, AV.list.injEq, Value.int.injEq, Value.bool.injEq, true_and, and_true]; first | omega | (simp [fr]; done)) | (simp [fr]; done) | (simp [fr]; omega)) (by (repeat' (first | exact Hp.le_emp _ | exact Hp.le_refl _ | refine Hp.le_upd ?_ ?_)); all_goals (first | rfl | (simp only [go_sem]; first | rfl | (refine cellsE ?_ ?_ <;> (simp [fr])) | (simp [fr]))))) ?_
  · exact Nat.zero_le _
  intro k hk
  have h1 := hb k
  have h2 := Go.Wd.fr_len (w.take k)
  rw [List.length_take] at h2
  obtain ⟨o, ho⟩ : ∃ o, o = fr (w.take k) := ⟨_, rfl⟩
  have h3 : k < w.length → fr (w.take (k + 1)) = frS o (w.getD k 0) := fun h => by rw [ho]; exact Go.Wd.fr_snoc w k h
  rw [← ho] at h2 ⊢
  have e1 : ((o.length : Int) - 1).toNat = o.length - 1 := by omega
  repeat' (first | refine awp_seqK fun K hK => ?_ | (refine awp_regionK 268435997 rfl ?_; simp only [List.map_cons, List.map_nil]; simp (maxSteps := 1000000) (dsimp := false) (implicitDefEqProofs := false) (disch := omega) only [wrap64, go_sem, e1]) | (refine awp_regionQK 268435997 (by kernel_rfl) (by kernel_rfl) (by kernel_rfl) ?_; simp only [List.map_cons, List.map_nil]; simp (maxSteps := 1000000) (dsimp := false) (implicitDefEqProofs := false) (disch := omega) only [wrap64, go_sem, e1]) | refine awp_block ?_ | (refine awp_skip ?_; simp only [go_sem, e1]) | (refine awp_exit ?_; simp only [go_sem, e1]) | (refine awp_ret ?_; try simp only [go_sem, e1]) | (refine awp_condP rfl ?_; try simp only [go_sem, e1]) | (refine BrP.mk (fun h => ?_) (fun h => ?_) <;> try simp (dsimp := false) (disch := omega) only [wrap64]) | (refine Br.mk (fun h => ?_) (fun h => ?_) <;> try simp (dsimp := false) (disch := omega) only [wrap64]) | refine Ob.mk (by first | omega | (intro _ _; rfl) | trivial | (intros; trivial) | assumption | (intro i hi; have h0 : i = 0 := (by omega); subst h0; first | rfl | trivial) | (intro i hi; have h0 : i = 0 ∨ i = 1 := (by omega); rcases h0 with rfl | rfl <;> rfl) | (intro i hi; have h0 : i = 0 ∨ i = 1 ∨ i = 2 := (by omega); rcases h0 with rfl | rfl | rfl <;> rfl)) ?_ | apply_assumption -exfalso -symm)
  all_goals (first | (show endQ _ _ _ _ _ _ _; (repeat (rename (∀ (A : Fr) (H : Hp), AWP _ _ _ _ A H → _) => hK; clear hK)); (repeat (rename (Fr → Hp → Prop) => K; clear K))) | (show Exists _; (repeat (rename (∀ (A : Fr) (H : Hp), AWP _ _ _ _ A H → _) => hK; clear hK)); (repeat (rename (Fr → Hp → Prop) => K; clear K))) | skip)
  · have e : fr (w.take (k + 1)) = o.take (o.length - 1) := by rw [h3 (by omega)]; unfold frS; rw [if_pos ⟨by omega, by omega⟩]
    have el : (o.take (o.length - 1)).length = o.length - 1 := by rw [List.length_take]; omega
    refine ⟨k + 1, by omega, by omega, (Sub.shrink (h := 5) (m := o.length - 1) rfl (by omega)).trans ?_⟩
    rw [e, el]
    exact Sub.toLF (by simp only [go_sem] <;> first | trivial | (simp only [Option.some.injEq, AV.v.injEq, AV.own.injEq, AV.list.injEq, Value.int.injEq, Value.bool.injEq, true_and, and_true]; first | omega | (simp; done)) | (simp; done) | (simp; omega)) (leF_upd rfl (bfE rfl (cells_take o _)) leF_emp id)
  · have e : fr (w.take (k + 1)) = o ++ [w.getD k 0] := by rw [h3 (by omega)]; unfold frS; rw [if_neg (by omega)]
    exact ⟨k + 1, by omega, by omega, Sub.toL (by simp only [go_sem] <;> first | trivial | (simp only [Option.some.injEq, AV.v.injEq, AV.own.injEq, AV.list.injEq, Value.int.injEq, Value.bool.injEq, true_and, and_true]; first | omega | (simp [e]; done)) | (simp [e]; done) | (simp [e]; omega)) (by (repeat' (first | exact Hp.le_emp _ | exact Hp.le_refl _ | refine Hp.le_upd ?_ ?_)); all_goals (first | rfl | (simp only [go_sem]; first | rfl | (refine cellsE ?_ ?_ <;> (simp [e])) | (simp [e]))))⟩
  · have e : fr (w.take (k + 1)) = o ++ [w.getD k 0] := by rw [h3 (by omega)]; unfold frS; rw [if_neg (by omega)]
    exact ⟨k + 1, by omega, by omega, Sub.toL (by simp only [go_sem] <;> first | trivial | (simp only [Option.some.injEq, AV.v.injEq, AV.own.injEq, AV.list.injEq, Value.int.injEq, Value.bool.injEq, true_and, and_true]; first | omega | (simp [e]; done)) | (simp [e]; done) | (simp [e]; omega)) (by (repeat' (first | exact Hp.le_emp _ | exact Hp.le_refl _ | refine Hp.le_upd ?_ ?_)); all_goals (first | rfl | (simp only [go_sem]; first | rfl | (refine cellsE ?_ ?_ <;> (simp [e])) | (simp [e]))))⟩
  · have e : k = w.length := by omega
    subst e
    rw [List.take_length] at ho
    rw [← ho]
    exact end_retI' rfl rfl rfl rfl rfl rfl
def frW (w : List Int) : List Int := if isW 8 w then fr w else []
theorem frW_len (w : List Int) : (frW w).length ≤ 200 := by
  unfold frW
  split
  · rename_i h; have := Go.Wd.fr_len w; have := h.1; omega
  · simp
theorem implFreeReduceX_ok (w : List Int) (d : Nat) : AC Try.prog 20 [ints w] Hp.emp (fun _ => false) (retI d (frW w)) := by
  refine ac_of_awp (N := ⟨_, fun _ => false, fun _ _ => rfl⟩) Try.func20 rfl (by kernel_rfl) Try.ntmps20 (by simp) ?_
  simp only [argsFr, List.zipIdx_cons, List.zipIdx_nil, go_sem]
  repeat' (first | refine awp_seqK fun K hK => ?_ | (refine awp_regionK 37 rfl ?_; simp only [List.map_cons, List.map_nil]; simp (maxSteps := 1000000) (dsimp := false) (implicitDefEqProofs := false) (disch := omega) only [wrap64, go_sem]) | (refine awp_regionQK 37 (by kernel_rfl) (by kernel_rfl) (by kernel_rfl) ?_; simp only [List.map_cons, List.map_nil]; simp (maxSteps := 1000000) (dsimp := false) (implicitDefEqProofs := false) (disch := omega) only [wrap64, go_sem]) | refine awp_block ?_ | (refine awp_skip ?_; simp only [go_sem]) | (refine awp_exit ?_; simp only [go_sem]) | (refine awp_ret ?_; try simp only [go_sem]) | (refine awp_condP rfl ?_; try simp only [go_sem]) | (refine BrP.mk (fun h => ?_) (fun h => ?_) <;> try simp (dsimp := false) (disch := omega) only [wrap64]) | (refine Br.mk (fun h => ?_) (fun h => ?_) <;> try simp (dsimp := false) (disch := omega) only [wrap64]) | refine Ob.mk (by first | omega | (intro _ _; rfl) | trivial | (intros; trivial) | assumption | (intro i hi; have h0 : i = 0 := (by omega); subst h0; first | rfl | trivial) | (intro i hi; have h0 : i = 0 ∨ i = 1 := (by omega); rcases h0 with rfl | rfl <;> rfl) | (intro i hi; have h0 : i = 0 ∨ i = 1 ∨ i = 2 := (by omega); rcases h0 with rfl | rfl | rfl <;> rfl)) ?_ | ((first | ((first | refine atF (f := 124) ?_ | refine atQ (f := 124) ?_); (first | (refine cV (hac := implIsWord_ok w) (hK := ?_)) | (refine cQV (hac := implIsWord_ok w) (hK := ?_)))) | ((first | refine atF (f := 125) ?_ | refine atQ (f := 125) ?_); (first | (refine cI (hac := implFreeReduce_ok w (by have := And.left (by assumption : isW 8 w); omega) (isW_bd (by assumption)) 9) (hK := ?_)) | (refine cQI (hac := implFreeReduce_ok w (by have := And.left (by assumption : isW 8 w); omega) (isW_bd (by assumption)) 9) (hK := ?_))))); simp (maxSteps := 1000000) (dsimp := false) (implicitDefEqProofs := false) (disch := omega) only [wrap64, go_sem]) | apply_assumption -exfalso -symm)
  all_goals (first | (show endQ _ _ _ _ _ _ _; (repeat (rename (∀ (A : Fr) (H : Hp), AWP _ _ _ _ A H → _) => hK; clear hK)); (repeat (rename (Fr → Hp → Prop) => K; clear K))) | (show Exists _; (repeat (rename (∀ (A : Fr) (H : Hp), AWP _ _ _ _ A H → _) => hK; clear hK)); (repeat (rename (Fr → Hp → Prop) => K; clear K))) | skip)
  all_goals
    (first | refine end_retI' rfl rfl rfl ?_ rfl rfl | refine end_retI_nil' rfl rfl ?_ rfl)
    unfold frW
    first
    | (rw [if_pos (by assumption)]; done)
    | (rw [if_neg (by assumption)]; first | done | rfl)
theorem specFreeReduceX_ok (w : List Int) (d : Nat) : AC Try.prog 22 [ints w] Hp.emp (fun _ => false) (retI d (frW w)) := by
  refine ac_of_awp (N := ⟨_, fun _ => false, fun _ _ => rfl⟩) Try.func22 rfl (by kernel_rfl) Try.ntmps22 (by simp) ?_
  simp only [argsFr, List.zipIdx_cons, List.zipIdx_nil, go_sem]
  repeat' (first | refine awp_seqK fun K hK => ?_ | (refine awp_regionK 37 rfl ?_; simp only [List.map_cons, List.map_nil]; simp (maxSteps := 1000000) (dsimp := false) (implicitDefEqProofs := false) (disch := omega) only [wrap64, go_sem]) | (refine awp_regionQK 37 (by kernel_rfl) (by kernel_rfl) (by kernel_rfl) ?_; simp only [List.map_cons, List.map_nil]; simp (maxSteps := 1000000) (dsimp := false) (implicitDefEqProofs := false) (disch := omega) only [wrap64, go_sem]) | refine awp_block ?_ | (refine awp_skip ?_; simp only [go_sem]) | (refine awp_exit ?_; simp only [go_sem]) | (refine awp_ret ?_; try simp only [go_sem]) | (refine awp_condP rfl ?_; try simp only [go_sem]) | (refine BrP.mk (fun h => ?_) (fun h => ?_) <;> try simp (dsimp := false) (disch := omega) only [wrap64]) | (refine Br.mk (fun h => ?_) (fun h => ?_) <;> try simp (dsimp := false) (disch := omega) only [wrap64]) | refine Ob.mk (by first | omega | (intro _ _; rfl) | trivial | (intros; trivial) | assumption | (intro i hi; have h0 : i = 0 := (by omega); subst h0; first | rfl | trivial) | (intro i hi; have h0 : i = 0 ∨ i = 1 := (by omega); rcases h0 with rfl | rfl <;> rfl) | (intro i hi; have h0 : i = 0 ∨ i = 1 ∨ i = 2 := (by omega); rcases h0 with rfl | rfl | rfl <;> rfl)) ?_ | ((first | ((first | refine atF (f := 126) ?_ | refine atQ (f := 126) ?_); (first | (refine cV (hac := isWord_ok w) (hK := ?_)) | (refine cQV (hac := isWord_ok w) (hK := ?_)))) | ((first | refine atF (f := 127) ?_ | refine atQ (f := 127) ?_); (first | (refine cI (hac := specFreeReduce_ok w (by have := And.left (by assumption : isW 8 w); omega) (isW_bd (by assumption)) 9) (hK := ?_)) | (refine cQI (hac := specFreeReduce_ok w (by have := And.left (by assumption : isW 8 w); omega) (isW_bd (by assumption)) 9) (hK := ?_))))); simp (maxSteps := 1000000) (dsimp := false) (implicitDefEqProofs := false) (disch := omega) only [wrap64, go_sem]) | apply_assumption -exfalso -symm)
  all_goals (first | (show endQ _ _ _ _ _ _ _; (repeat (rename (∀ (A : Fr) (H : Hp), AWP _ _ _ _ A H → _) => hK; clear hK)); (repeat (rename (Fr → Hp → Prop) => K; clear K))) | (show Exists _; (repeat (rename (∀ (A : Fr) (H : Hp), AWP _ _ _ _ A H → _) => hK; clear hK)); (repeat (rename (Fr → Hp → Prop) => K; clear K))) | skip)
  all_goals
    (first | refine end_retI' rfl rfl rfl ?_ rfl rfl | refine end_retI_nil' rfl rfl ?_ rfl)
    unfold frW
    first
    | (rw [if_pos (by assumption)]; first | done | rfl)
    | (rw [if_neg (by assumption)]; first | done | rfl)
end Go.Proofs.Ytcfnbahpdlmcpaa
end
/- Runs of letters: the program's. -/
section
namespace Go.Proofs.Ytcfnbahpdlmcpaa
open Go.Av
set_option linter.unusedSimpArgs false
set_option linter.unusedVariables false
attribute [local irreducible] AWP CallG Ob Br BrP Go.Av.Sub endQ AOps OpV AC thenA blkA opsVC opVC withA withArgs opsQ opQ CallQ withA2 withArgs2
open Go.Wd (runsK)
/-- The rows of runs: all but the last are only read from now on. -/
def runF (xs : List (List Int)) (i : Nat) : AV := if i + 1 < xs.length then ints (xs.getD i []) else .own 31 0 1 (xs.getD i []).length
theorem runF_last {xs : List (List Int)} {i : Nat} (h : i + 1 = xs.length) : runF xs i = .own 31 0 1 (xs.getD i []).length := if_neg (by omega)
theorem runF_low {xs : List (List Int)} {i : Nat} (h : i + 1 < xs.length) : runF xs i = ints (xs.getD i []) := if_pos h
theorem runF_sc {xs : List (List Int)} {e : Nat} (he : e ≠ 31) : scF (fun x => x == e) (runF xs) = runF xs := by
  funext i
  unfold scF runF
  split
  · rfl
  · simp [AV.scrub, Ne.symm he]
theorem len_flat : ∀ (xs : List (List Int)) (j : Nat), (xs.getD j []).length ≤ xs.flatten.length
  | [], j => by simp
  | x :: xs, 0 => by simp
  | x :: xs, j + 1 => by
    have := len_flat xs j
    rw [List.getD_cons_succ, List.flatten_cons, List.length_append]; omega
abbrev fnV (g : FuncId) : AV := .v (.func (.func g) #[] #[])
theorem getD_set' {α : Type} {xs : List α} {i j : Nat} {d x : α} (hi : i < xs.length) : (xs.set i x).getD j d = if j = i then x else xs.getD j d := by
  by_cases h : j = i
  · subst h; simp [List.getD_eq_getElem?_getD, hi]
  · rw [if_neg h]; simp [List.getD_eq_getElem?_getD, List.getElem?_set, Ne.symm h]
theorem getD_snoc' {α : Type} {xs : List α} {j : Nat} {d x : α} : (xs ++ [x]).getD j d = if j = xs.length then x else xs.getD j d := by
  by_cases h : j = xs.length
  · subst h; simp [List.getD_eq_getElem?_getD]
  · rw [if_neg h]
    by_cases h2 : j < xs.length
    · simp [List.getD_eq_getElem?_getD, List.getElem?_append_left h2]
    · simp [List.getD_eq_getElem?_getD, List.getElem?_eq_none (show (xs ++ [x]).length ≤ j by simp; omega), List.getElem?_eq_none (show xs.length ≤ j by omega)]
def allP (p : AV → Prop) : Fr → Prop
  | [] => True
  | (_, a) :: r => p a ∧ allP p r
theorem allP_get {p : AV → Prop} : ∀ {A : Fr}, allP p A → ∀ {i : Nat} {c : AV}, A.get i = some c → p c
  | [], _, i, c, h => by simp [Fr.get] at h
  | (j, a) :: r, hl, i, c, h => by
    simp only [Fr.get] at h
    split at h
    · simp only [Option.some.injEq] at h; subst h; exact hl.1
    · exact allP_get hl.2 h
/-- A new run is laid: the run before is only read from now on. -/
theorem runF_new {N : Cx} (hpn : N.pn = fun _ => false) {A A' : Fr} {H0 : Hp} {xs ys : List (List Int)} {l : Int} {z : Nat → AV} (e : ys = xs ++ [[l]]) (hA : Fr.sub A A') (hl : allP (fun c => c.plain ∨ ∃ n, c = .own 30 0 1 n) A')
    (h30 : H0 30 = some (.cells (xs.length + 1) (apF xs.length (runF xs) (setF z 0 (.own 43 0 1 1))))) (h31 : H0 31 = some (.cells (xs.getD (xs.length - 1) []).length (cM iv 0 (xs.getD (xs.length - 1) [])))) (h43 : H0 43 = some (.cells 1 (cM iv 0 [l]))) :
    Sub N A H0 A' ((Hp.emp.upd 30 (.cells ys.length (runF ys))).upd 31 (.cells (ys.getD (ys.length - 1) []).length (cM iv 0 (ys.getD (ys.length - 1) [])))) := by
  have eg : ∀ i, ys.getD i [] = if i = xs.length then [l] else xs.getD i [] := fun i => by rw [e]; exact getD_snoc'
  have el : ys.length = xs.length + 1 := by rw [e]; simp
  have s1 : Sub N A H0 A' ((Hp.emp.upd 30 (.cells (xs.length + 1) fun i => if i < xs.length then ints (xs.getD i []) else .own 43 0 1 1)).upd 43 (.cells 1 (cM iv 0 [l]))) := by
    refine Sub.fits (fun x => x = 31) (fun i c hc => ⟨c, Fr.sub_get A' A hA i c hc, .refl c⟩) (leF_upd h43 (.refl _ _ _) (leF_upd h30 ⟨rfl, fun i hi => ?_⟩ leF_emp (by decide)) (by decide))
    unfold apF
    dsimp only
    by_cases hc : i < xs.length
    · rw [if_pos hc, if_pos hc]
      by_cases h2 : i + 1 < xs.length
      · rw [runF_low h2]; exact .refl _
      · rw [runF_last (by omega)]
        have : i = xs.length - 1 := by omega
        subst this
        exact fits_I h31 rfl rfl rfl
    · rw [if_neg hc, if_neg hc, show i - xs.length = 0 by omega]
      exact .ofEq (by simp [setF])
  rw [el, Nat.add_sub_cancel, eg, if_pos rfl]
  refine s1.trans (Sub.layM (fun h => if h = 31 then some 43 else some h) hpn (fun i c hc => ⟨c, hc, ?_⟩) (layF_upd (g := 43) (by simp) rfl (fun i hi => ?_) (layF_upd (g := 30) (by simp) rfl (fun i hi => ?_) layF_emp)) (fun x y k hx hy h1 h2 => ?_))
  · rcases allP_get hl hc with h | ⟨n, rfl⟩
    · exact .plain h
    · exact .own (by simp)
  · exact .plain trivial
  · by_cases hc : i < xs.length
    · rw [if_pos hc, runF_low (xs := ys) (by omega), eg, if_neg (by omega)]
      exact .plain trivial
    · have : i = xs.length := by omega
      subst this
      rw [if_neg (by omega), runF_last (xs := ys) (by omega), eg, if_pos rfl]
      exact .own (by simp)
  · have live : ∀ x, ((Hp.emp.upd 30 (.cells (xs.length + 1) (runF ys))).upd 31 (.cells [l].length (cM iv 0 [l]))) x ≠ none → x = 31 ∨ x = 30 := fun x hx => by
      unfold Hp.upd at hx
      by_cases e1 : x = 31
      · exact .inl e1
      · rw [if_neg e1] at hx
        by_cases e2 : x = 30
        · exact .inr e2
        · rw [if_neg e2] at hx; exact absurd rfl hx
    rcases live x hx with rfl | rfl <;> rcases live y hy with rfl | rfl <;> first | rfl | (simp at h1 h2; omega)
set_option maxHeartbeats 1000000 in
theorem runs_okA (w : List Int) (g : FuncId) (al : Int → Int → Bool) (hl : w.length ≤ 1048576) (hg : ∀ i j, i < w.length → j < w.length → AC Try.prog g [.v (.int .i64 (w.getD i 0)), .v (.int .i64 (w.getD j 0))] Hp.emp (fun _ => false) (retV (.v (.bool (al (w.getD i 0) (w.getD j 0)))))) : AC Try.prog 234 [ints w, fnV g] Hp.emp (fun _ => false) (retV (intss (runsK al w w.length))) := by
  refine ac_of_awp (N := ⟨_, fun _ => false, fun _ _ => rfl⟩) Try.func234 rfl (by kernel_rfl) Try.ntmps234 (by simp) ?_
  simp only [argsFr, List.zipIdx_cons, List.zipIdx_nil, go_sem]
  repeat' (first | refine awp_seqK fun K hK => ?_ | (refine awp_regionK 67112947 rfl ?_; simp only [List.map_cons, List.map_nil]; simp (maxSteps := 1000000) (dsimp := false) (implicitDefEqProofs := false) (disch := omega) only [wrap64, go_sem]) | (refine awp_regionQK 67112947 (by kernel_rfl) (by kernel_rfl) (by kernel_rfl) ?_; simp only [List.map_cons, List.map_nil]; simp (maxSteps := 1000000) (dsimp := false) (implicitDefEqProofs := false) (disch := omega) only [wrap64, go_sem]) | refine awp_block ?_ | (refine awp_skip ?_; simp only [go_sem]) | (refine awp_exit ?_; simp only [go_sem]) | (refine awp_ret ?_; try simp only [go_sem]) | (refine awp_condP rfl ?_; try simp only [go_sem]) | (refine BrP.mk (fun h => ?_) (fun h => ?_) <;> try simp (dsimp := false) (disch := omega) only [wrap64]) | (refine Br.mk (fun h => ?_) (fun h => ?_) <;> try simp (dsimp := false) (disch := omega) only [wrap64]) | refine Ob.mk (by first | omega | (intro _ _; rfl) | trivial | (intros; trivial) | assumption | (intro i hi; have h0 : i = 0 := (by omega); subst h0; first | rfl | trivial) | (intro i hi; have h0 : i = 0 ∨ i = 1 := (by omega); rcases h0 with rfl | rfl <;> rfl) | (intro i hi; have h0 : i = 0 ∨ i = 1 ∨ i = 2 := (by omega); rcases h0 with rfl | rfl | rfl <;> rfl)) ?_ | apply_assumption -exfalso -symm)
  all_goals (first | (show endQ _ _ _ _ _ _ _; (repeat (rename (∀ (A : Fr) (H : Hp), AWP _ _ _ _ A H → _) => hK; clear hK)); (repeat (rename (Fr → Hp → Prop) => K; clear K))) | (show Exists _; (repeat (rename (∀ (A : Fr) (H : Hp), AWP _ _ _ _ A H → _) => hK; clear hK)); (repeat (rename (Fr → Hp → Prop) => K; clear K))) | skip)
  refine awp_loop (ι := Nat) (fun k => [(10, .v (.int .i64 (k))), (9, .v (.int .i64 (w.length))), (8, .list false 1 (w).length (cM iv 0 (w))), (5, .own 30 0 1 (runsK al w k).length), (0, .list false 1 (w).length (cM iv 0 (w))), (1, fnV g)]) (fun k => (Hp.emp.upd 30 (.cells (runsK al w k).length (runF (runsK al w k)))).upd 31 (.cells ((runsK al w k).getD ((runsK al w k).length - 1) []).length (cM iv 0 ((runsK al w k).getD ((runsK al w k).length - 1) [])))) (fun k => k ≤ w.length) (fun k => w.length - k) 0 (Nat.zero_le _) (Sub.layM (fun _ => none) rfl (lay_cons ⟨_, rfl, .plain trivial⟩ (lay_cons ⟨_, rfl, .plain trivial⟩ (lay_cons ⟨_, rfl, .plain trivial⟩ (lay_cons ⟨_, rfl, .nil rfl⟩ (lay_cons ⟨_, rfl, .plain trivial⟩ (lay_cons ⟨_, rfl, .plain trivial⟩ lay_nil)))))) (layF_nil rfl (layF_nil rfl layF_emp)) (fun _ _ _ _ _ h _ => by cases h)) ?_
  intro k hk
  obtain ⟨xs, hx⟩ : ∃ xs, xs = runsK al w k := ⟨_, rfl⟩
  have hp := Go.Wd.runsK_pos al w k
  rw [← hx] at hp ⊢
  have e1 : ((xs.length : Int) - 1).toNat = xs.length - 1 := by omega
  have e2 : ((k : Int) - 1).toNat = k - 1 := by omega
  have e3 : 0 < xs.length → runF xs (xs.length - 1) = .own 31 0 1 (xs.getD (xs.length - 1) []).length := fun h => runF_last (by omega)
  have hs30 : scF (fun x => x == 30) (runF xs) = runF xs := runF_sc (by decide)
  have hs38 : scF (fun x => x == 38) (runF xs) = runF xs := runF_sc (by decide)
  have hs43 : scF (fun x => x == 43) (runF xs) = runF xs := runF_sc (by decide)
  have hs44 : scF (fun x => x == 44) (runF xs) = runF xs := runF_sc (by decide)
  have hlast : (xs.getD (xs.length - 1) []).length ≤ w.length := by
    have h1 := len_flat xs (xs.length - 1)
    have h2 := congrArg List.length (Go.Wd.runsK_flat al w k hk)
    rw [← hx, List.length_take] at h2
    omega
  have hgk := hg (k - 1) k
  repeat' (first | refine awp_seqK fun K hK => ?_ | (refine awp_regionK 67112947 rfl ?_; simp only [List.map_cons, List.map_nil]; simp (maxSteps := 1000000) (dsimp := false) (implicitDefEqProofs := false) (disch := omega) only [wrap64, go_sem, e1, e2, e3, hs30, hs38, hs43, hs44]) | (refine awp_regionQK 67112947 (by kernel_rfl) (by kernel_rfl) (by kernel_rfl) ?_; simp only [List.map_cons, List.map_nil]; simp (maxSteps := 1000000) (dsimp := false) (implicitDefEqProofs := false) (disch := omega) only [wrap64, go_sem, e1, e2, e3, hs30, hs38, hs43, hs44]) | refine awp_block ?_ | (refine awp_skip ?_; simp only [go_sem, e1, e2, e3, hs30, hs38, hs43, hs44]) | (refine awp_exit ?_; simp only [go_sem, e1, e2, e3, hs30, hs38, hs43, hs44]) | (refine awp_ret ?_; try simp only [go_sem, e1, e2, e3, hs30, hs38, hs43, hs44]) | (refine awp_condP rfl ?_; try simp only [go_sem, e1, e2, e3, hs30, hs38, hs43, hs44]) | (refine BrP.mk (fun h => ?_) (fun h => ?_) <;> try simp (dsimp := false) (disch := omega) only [wrap64]) | (refine Br.mk (fun h => ?_) (fun h => ?_) <;> try simp (dsimp := false) (disch := omega) only [wrap64]) | refine Ob.mk (by first | omega | (intro _ _; rfl) | trivial | (intros; trivial) | assumption | (intro i hi; have h0 : i = 0 := (by omega); subst h0; first | rfl | trivial) | (intro i hi; have h0 : i = 0 ∨ i = 1 := (by omega); rcases h0 with rfl | rfl <;> rfl) | (intro i hi; have h0 : i = 0 ∨ i = 1 ∨ i = 2 := (by omega); rcases h0 with rfl | rfl | rfl <;> rfl)) ?_ | ((first | (refine cV (hac := hgk (by omega) (by omega)) (hK := ?_)) | (refine cQV (hac := hgk (by omega) (by omega)) (hK := ?_))); simp (maxSteps := 1000000) (dsimp := false) (implicitDefEqProofs := false) (disch := omega) only [wrap64, go_sem, e1, e2, e3, hs30, hs38, hs43, hs44]) | apply_assumption -exfalso -symm)
  all_goals (first | (show endQ _ _ _ _ _ _ _; (repeat (rename (∀ (A : Fr) (H : Hp), AWP _ _ _ _ A H → _) => hK; clear hK)); (repeat (rename (Fr → Hp → Prop) => K; clear K))) | (show Exists _; (repeat (rename (∀ (A : Fr) (H : Hp), AWP _ _ _ _ A H → _) => hK; clear hK)); (repeat (rename (Fr → Hp → Prop) => K; clear K))) | skip)
  · have e : runsK al w (k + 1) = xs.set (xs.length - 1) (xs.getD (xs.length - 1) [] ++ [w.getD k 0]) := by rw [hx]; exact if_pos ⟨by omega, by assumption⟩
    have h0 := hp.1 (by omega)
    have el : (runsK al w (k + 1)).length = xs.length := by rw [e, List.length_set]
    have eg : ∀ i, (runsK al w (k + 1)).getD i [] = if i = xs.length - 1 then xs.getD (xs.length - 1) [] ++ [w.getD k 0] else xs.getD i [] := fun i => by rw [e]; exact getD_set' (by omega)
    refine ⟨k + 1, by omega, by omega, Sub.toLF (by simp only [go_sem] <;> first | trivial | (simp only [Option.some.injEq, AV.v.injEq, AV.own.injEq, AV.list.injEq, Value.int.injEq, Value.bool.injEq, true_and, and_true]; first | omega | (simp [el]; done)) | (simp [el]; done) | (simp [el]; omega)) (leF_upd rfl (bfE ?_ fun i hi => ?_) (leF_upd rfl (bfE el.symm fun i hi => ?_) leF_emp id) id)⟩
    · rw [el, eg, if_pos rfl, List.length_append]; rfl
    · rw [el, eg, if_pos rfl]
    · by_cases hc : i = xs.length - 1
      · subst hc
        rw [runF_last (by omega), eg, if_pos rfl, List.length_append]
        simp [setF]
      · rw [runF_low (by omega), eg, if_neg hc]
        simp only [setF, if_neg hc, scF]
        rw [runF_low (by omega)]; rfl
  all_goals first
  | (have e : runsK al w (k + 1) = xs ++ [[w.getD k 0]] := (by rw [hx]; exact if_neg (by simp_all))
     have el : (runsK al w (k + 1)).length = xs.length + 1 := (by rw [e]; simp)
     exact ⟨k + 1, by omega, by omega, runF_new rfl e (by simp only [go_sem] <;> first | trivial | (simp only [Option.some.injEq, AV.v.injEq, AV.own.injEq, AV.list.injEq, Value.int.injEq, Value.bool.injEq, true_and, and_true]; first | omega | (simp [el]; done)) | (simp [el]; done) | (simp [el]; omega)) (by simp only [allP, AV.plain, true_or, true_and, and_true]; exact .inr ⟨_, rfl⟩) rfl rfl rfl⟩)
  | skip
  · have e : k = w.length := by omega
    subst e
    rw [← hx]
    refine end_retF rfl rfl (.own (M := xs.length) (g := runF xs) rfl trivial (by omega) (fun i hi => trivial) (fun i hi => ?_))
    rw [Nat.zero_add]
    rw [Nat.mul_one] at hi
    show Fits _ _ (runF xs i) (ints (xs.getD i []))
    by_cases hc : i + 1 < xs.length
    · rw [runF_low hc]; exact .refl _
    · rw [runF_last (by omega)]
      have : i = xs.length - 1 := by omega
      subst this
      exact fits_I rfl trivial rfl rfl
end Go.Proofs.Ytcfnbahpdlmcpaa
end
/- The lengths of words; words one behind the other. -/
section
namespace Go.Proofs.Ytcfnbahpdlmcpaa
open Go.Av
set_option linter.unusedSimpArgs false
set_option linter.unusedVariables false
attribute [local irreducible] AWP CallG Ob Br BrP Go.Av.Sub endQ AOps OpV AC thenA blkA opsVC opVC withA withArgs opsQ opQ CallQ withA2 withArgs2
open Go.Wd (fr runsK)
def smB (a b : Int) : Bool := decide (a = b ∨ a = 0 - b)
theorem sameMove_ok (a b : Int) (hb : -1000 ≤ b ∧ b ≤ 1000) : AC Try.prog 235 [.v (.int .i64 (a)), .v (.int .i64 (b))] Hp.emp (fun _ => false) (retV (.v (.bool (smB a b)))) := by
  refine ac_of_awp (N := ⟨_, fun _ => false, fun _ _ => rfl⟩) Try.func235 rfl (by kernel_rfl) Try.ntmps235 (by simp) ?_
  simp only [argsFr, List.zipIdx_cons, List.zipIdx_nil, go_sem]
  repeat' (first | refine awp_seqK fun K hK => ?_ | (refine awp_regionK 19 rfl ?_; simp only [List.map_cons, List.map_nil]; simp (maxSteps := 1000000) (dsimp := false) (implicitDefEqProofs := false) (disch := omega) only [wrap64, go_sem]) | (refine awp_regionQK 19 (by kernel_rfl) (by kernel_rfl) (by kernel_rfl) ?_; simp only [List.map_cons, List.map_nil]; simp (maxSteps := 1000000) (dsimp := false) (implicitDefEqProofs := false) (disch := omega) only [wrap64, go_sem]) | refine awp_block ?_ | (refine awp_skip ?_; simp only [go_sem]) | (refine awp_exit ?_; simp only [go_sem]) | (refine awp_ret ?_; try simp only [go_sem]) | (refine awp_condP rfl ?_; try simp only [go_sem]) | (refine BrP.mk (fun h => ?_) (fun h => ?_) <;> try simp (dsimp := false) (disch := omega) only [wrap64]) | (refine Br.mk (fun h => ?_) (fun h => ?_) <;> try simp (dsimp := false) (disch := omega) only [wrap64]) | refine Ob.mk (by first | omega | (intro _ _; rfl) | trivial | (intros; trivial) | assumption | (intro i hi; have h0 : i = 0 := (by omega); subst h0; first | rfl | trivial) | (intro i hi; have h0 : i = 0 ∨ i = 1 := (by omega); rcases h0 with rfl | rfl <;> rfl) | (intro i hi; have h0 : i = 0 ∨ i = 1 ∨ i = 2 := (by omega); rcases h0 with rfl | rfl | rfl <;> rfl)) ?_ | apply_assumption -exfalso -symm)
  all_goals (first | (show endQ _ _ _ _ _ _ _; (repeat (rename (∀ (A : Fr) (H : Hp), AWP _ _ _ _ A H → _) => hK; clear hK)); (repeat (rename (Fr → Hp → Prop) => K; clear K))) | (show Exists _; (repeat (rename (∀ (A : Fr) (H : Hp), AWP _ _ _ _ A H → _) => hK; clear hK)); (repeat (rename (Fr → Hp → Prop) => K; clear K))) | skip)
  all_goals refine end_retV' rfl rfl ?_
  · unfold smB; simp_all
  · unfold smB; simp_all
def wlP (w : List Int) (m : Int) : Int := if isW 8 w ∧ 1 ≤ m ∧ m ≤ 2 then (if m = 1 then ((fr w).length : Int) else (Go.Wd.runN smB (fr w) (fr w).length : Int)) else -1
theorem fr_bd {w : List Int} (h : isW 8 w) : (fr w).length ≤ 200 ∧ ∀ j, -1000 ≤ (fr w).getD j 0 ∧ (fr w).getD j 0 ≤ 1000 := by
  have h1 := Go.Wd.fr_len w
  refine ⟨by have := h.1; omega, fun j => ?_⟩
  by_cases hj : j < (fr w).length
  · have hm : (fr w).getD j 0 ∈ fr w := by rw [List.getD_eq_getElem?_getD, List.getElem?_eq_getElem hj]; exact List.getElem_mem hj
    obtain ⟨i, hi, e⟩ := List.mem_iff_getElem.1 (Go.Wd.mem_fr hm)
    have := isW_bd h i
    rw [List.getD_eq_getElem?_getD, List.getElem?_eq_getElem hi] at this
    rw [← e]; exact this
  · rw [List.getD_eq_getElem?_getD, List.getElem?_eq_none (by omega)]
    exact ⟨by decide, by decide⟩
theorem implWordLength_ok (w : List Int) (m : Int) (h : isW 8 w) : AC Try.prog 131 [ints w, .v (.int .i64 (m))] Hp.emp (fun _ => false) (retV (.v (.int .i64 (if m = 1 then ((fr w).length : Int) else (Go.Wd.runN smB (fr w) (fr w).length : Int))))) := by
  obtain ⟨hl, hb⟩ := fr_bd h
  refine ac_of_awp (N := ⟨_, fun _ => false, fun _ _ => rfl⟩) Try.func131 rfl (by kernel_rfl) Try.ntmps131 (by simp) ?_
  simp only [argsFr, List.zipIdx_cons, List.zipIdx_nil, go_sem]
  repeat' (first | refine awp_seqK fun K hK => ?_ | (refine awp_regionK 275 rfl ?_; simp only [List.map_cons, List.map_nil]; simp (maxSteps := 1000000) (dsimp := false) (implicitDefEqProofs := false) (disch := omega) only [wrap64, go_sem]) | (refine awp_regionQK 275 (by kernel_rfl) (by kernel_rfl) (by kernel_rfl) ?_; simp only [List.map_cons, List.map_nil]; simp (maxSteps := 1000000) (dsimp := false) (implicitDefEqProofs := false) (disch := omega) only [wrap64, go_sem]) | refine awp_block ?_ | (refine awp_skip ?_; simp only [go_sem]) | (refine awp_exit ?_; simp only [go_sem]) | (refine awp_ret ?_; try simp only [go_sem]) | (refine awp_condP rfl ?_; try simp only [go_sem]) | (refine BrP.mk (fun h => ?_) (fun h => ?_) <;> try simp (dsimp := false) (disch := omega) only [wrap64]) | (refine Br.mk (fun h => ?_) (fun h => ?_) <;> try simp (dsimp := false) (disch := omega) only [wrap64]) | refine Ob.mk (by first | omega | (intro _ _; rfl) | trivial | (intros; trivial) | assumption | (intro i hi; have h0 : i = 0 := (by omega); subst h0; first | rfl | trivial) | (intro i hi; have h0 : i = 0 ∨ i = 1 := (by omega); rcases h0 with rfl | rfl <;> rfl) | (intro i hi; have h0 : i = 0 ∨ i = 1 ∨ i = 2 := (by omega); rcases h0 with rfl | rfl | rfl <;> rfl)) ?_ | ((first | ((first | refine atF (f := 125) ?_ | refine atQ (f := 125) ?_); (first | (refine cFI (hac := implFreeReduce_ok w (by have := h.1; omega) (isW_bd h) 41) (hK := ?_)) | (refine cQI (hac := implFreeReduce_ok w (by have := h.1; omega) (isW_bd h) 41) (hK := ?_)))) | ((first | refine atF (f := 139) ?_ | refine atQ (f := 139) ?_); (first | (refine cV (hac := length_ok _) (hK := ?_)) | (refine cQV (hac := length_ok _) (hK := ?_)))) | ((first | refine atF (f := 234) ?_ | refine atQ (f := 234) ?_); (first | (refine cR (hac := runs_okA (fr w) _ smB (by omega) (fun i j hi hj => sameMove_ok _ _ (hb j))) (hK := ?_)) | (refine cQR (hac := runs_okA (fr w) _ smB (by omega) (fun i j hi hj => sameMove_ok _ _ (hb j))) (hK := ?_)))) | ((first | refine atF (f := 146) ?_ | refine atQ (f := 146) ?_); (first | (refine cV (hac := lengthII_ok _) (hK := ?_)) | (refine cQV (hac := lengthII_ok _) (hK := ?_))))); simp (maxSteps := 1000000) (dsimp := false) (implicitDefEqProofs := false) (disch := omega) only [wrap64, go_sem]) | apply_assumption -exfalso -symm)
  all_goals (first | (show endQ _ _ _ _ _ _ _; (repeat (rename (∀ (A : Fr) (H : Hp), AWP _ _ _ _ A H → _) => hK; clear hK)); (repeat (rename (Fr → Hp → Prop) => K; clear K))) | (show Exists _; (repeat (rename (∀ (A : Fr) (H : Hp), AWP _ _ _ _ A H → _) => hK; clear hK)); (repeat (rename (Fr → Hp → Prop) => K; clear K))) | skip)
  · refine end_retV' rfl rfl ?_
    rw [if_pos (by assumption)]
  · refine end_retV' rfl rfl ?_
    rw [if_neg (by assumption), Go.Wd.runsK_len]
theorem implWordLengthX_ok (w : List Int) (m : Int) : AC Try.prog 26 [ints w, .v (.int .i64 (m))] Hp.emp (fun _ => false) (retV (.v (.int .i64 (wlP w m)))) := by
  refine ac_of_awp (N := ⟨_, fun _ => false, fun _ _ => rfl⟩) Try.func26 rfl (by kernel_rfl) Try.ntmps26 (by simp) ?_
  simp only [argsFr, List.zipIdx_cons, List.zipIdx_nil, go_sem]
  repeat' (first | refine awp_seqK fun K hK => ?_ | (refine awp_regionK 32787 rfl ?_; simp only [List.map_cons, List.map_nil]; simp (maxSteps := 1000000) (dsimp := false) (implicitDefEqProofs := false) (disch := omega) only [wrap64, go_sem]) | (refine awp_regionQK 32787 (by kernel_rfl) (by kernel_rfl) (by kernel_rfl) ?_; simp only [List.map_cons, List.map_nil]; simp (maxSteps := 1000000) (dsimp := false) (implicitDefEqProofs := false) (disch := omega) only [wrap64, go_sem]) | refine awp_block ?_ | (refine awp_skip ?_; simp only [go_sem]) | (refine awp_exit ?_; simp only [go_sem]) | (refine awp_ret ?_; try simp only [go_sem]) | (refine awp_condP rfl ?_; try simp only [go_sem]) | (refine BrP.mk (fun h => ?_) (fun h => ?_) <;> try simp (dsimp := false) (disch := omega) only [wrap64]) | (refine Br.mk (fun h => ?_) (fun h => ?_) <;> try simp (dsimp := false) (disch := omega) only [wrap64]) | refine Ob.mk (by first | omega | (intro _ _; rfl) | trivial | (intros; trivial) | assumption | (intro i hi; have h0 : i = 0 := (by omega); subst h0; first | rfl | trivial) | (intro i hi; have h0 : i = 0 ∨ i = 1 := (by omega); rcases h0 with rfl | rfl <;> rfl) | (intro i hi; have h0 : i = 0 ∨ i = 1 ∨ i = 2 := (by omega); rcases h0 with rfl | rfl | rfl <;> rfl)) ?_ | ((first | ((first | refine atF (f := 124) ?_ | refine atQ (f := 124) ?_); (first | (refine cV (hac := implIsWord_ok w) (hK := ?_)) | (refine cQV (hac := implIsWord_ok w) (hK := ?_)))) | ((first | refine atF (f := 131) ?_ | refine atQ (f := 131) ?_); (first | (refine cV (hac := implWordLength_ok w m (by assumption)) (hK := ?_)) | (refine cQV (hac := implWordLength_ok w m (by assumption)) (hK := ?_))))); simp (maxSteps := 1000000) (dsimp := false) (implicitDefEqProofs := false) (disch := omega) only [wrap64, go_sem]) | apply_assumption -exfalso -symm)
  all_goals (first | (show endQ _ _ _ _ _ _ _; (repeat (rename (∀ (A : Fr) (H : Hp), AWP _ _ _ _ A H → _) => hK; clear hK)); (repeat (rename (Fr → Hp → Prop) => K; clear K))) | (show Exists _; (repeat (rename (∀ (A : Fr) (H : Hp), AWP _ _ _ _ A H → _) => hK; clear hK)); (repeat (rename (Fr → Hp → Prop) => K; clear K))) | skip)
  all_goals
    refine end_retV' rfl rfl ?_
    unfold wlP
    by_cases hP : isW 8 w ∧ 1 ≤ m ∧ m ≤ 2
    · rw [if_pos hP]
      first | done | (exfalso; have h1 := hP.1; have h2 := hP.2; first | omega | contradiction)
    · rw [if_neg hP]
      first | done | (exfalso; exact hP ⟨by assumption, by omega⟩)
theorem specWordLengthX_ok (w : List Int) (m : Int) : AC Try.prog 27 [ints w, .v (.int .i64 (m))] Hp.emp (fun _ => false) (retV (.v (.int .i64 (wlP w m)))) := by
  refine ac_of_awp (N := ⟨_, fun _ => false, fun _ _ => rfl⟩) Try.func27 rfl (by kernel_rfl) Try.ntmps27 (by simp) ?_
  simp only [argsFr, List.zipIdx_cons, List.zipIdx_nil, go_sem]
  repeat' (first | refine awp_seqK fun K hK => ?_ | (refine awp_regionK 144115188080116211 rfl ?_; simp only [List.map_cons, List.map_nil]; simp (maxSteps := 1000000) (dsimp := false) (implicitDefEqProofs := false) (disch := omega) only [wrap64, go_sem]) | (refine awp_regionQK 144115188080116211 (by kernel_rfl) (by kernel_rfl) (by kernel_rfl) ?_; simp only [List.map_cons, List.map_nil]; simp (maxSteps := 1000000) (dsimp := false) (implicitDefEqProofs := false) (disch := omega) only [wrap64, go_sem]) | refine awp_block ?_ | (refine awp_skip ?_; simp only [go_sem]) | (refine awp_exit ?_; simp only [go_sem]) | (refine awp_ret ?_; try simp only [go_sem]) | (refine awp_condP rfl ?_; try simp only [go_sem]) | (refine BrP.mk (fun h => ?_) (fun h => ?_) <;> try simp (dsimp := false) (disch := omega) only [wrap64]) | (refine Br.mk (fun h => ?_) (fun h => ?_) <;> try simp (dsimp := false) (disch := omega) only [wrap64]) | refine Ob.mk (by first | omega | (intro _ _; rfl) | trivial | (intros; trivial) | assumption | (intro i hi; have h0 : i = 0 := (by omega); subst h0; first | rfl | trivial) | (intro i hi; have h0 : i = 0 ∨ i = 1 := (by omega); rcases h0 with rfl | rfl <;> rfl) | (intro i hi; have h0 : i = 0 ∨ i = 1 ∨ i = 2 := (by omega); rcases h0 with rfl | rfl | rfl <;> rfl)) ?_ | ((first | ((first | refine atF (f := 126) ?_ | refine atQ (f := 126) ?_); (first | (refine cV (hac := isWord_ok w) (hK := ?_)) | (refine cQV (hac := isWord_ok w) (hK := ?_)))) | ((first | refine atF (f := 132) ?_ | refine atQ (f := 132) ?_); (first | (refine cV (hac := inRange_ok _ _ _) (hK := ?_)) | (refine cQV (hac := inRange_ok _ _ _) (hK := ?_)))) | ((first | refine atF (f := 127) ?_ | refine atQ (f := 127) ?_); (first | (refine cFI (hac := specFreeReduce_ok w (by have := And.left (by assumption : isW 8 w); omega) (isW_bd (by assumption)) 41) (hK := ?_)) | (refine cQI (hac := specFreeReduce_ok w (by have := And.left (by assumption : isW 8 w); omega) (isW_bd (by assumption)) 41) (hK := ?_))))); simp (maxSteps := 1000000) (dsimp := false) (implicitDefEqProofs := false) (disch := omega) only [wrap64, go_sem]) | apply_assumption -exfalso -symm)
  all_goals (first | (show endQ _ _ _ _ _ _ _; (repeat (rename (∀ (A : Fr) (H : Hp), AWP _ _ _ _ A H → _) => hK; clear hK)); (repeat (rename (Fr → Hp → Prop) => K; clear K))) | (show Exists _; (repeat (rename (∀ (A : Fr) (H : Hp), AWP _ _ _ _ A H → _) => hK; clear hK)); (repeat (rename (Fr → Hp → Prop) => K; clear K))) | skip)
  · have hw : isW 8 w := by assumption
    obtain ⟨hl, hb⟩ := fr_bd hw
    obtain ⟨cnt, hcnt⟩ : ∃ cnt : Nat → Int, ∀ j, cnt j = if m = 1 then (j : Int) else (Go.Wd.runN smB (fr w) j : Int) := ⟨_, fun _ => rfl⟩
    have hc0 : cnt 0 = 0 := by rw [hcnt]; split <;> rfl
    have hcs : ∀ k, 0 ≤ cnt k ∧ cnt k ≤ k ∧ ((m = 1 ∨ ¬ (0 < k ∧ ((fr w).getD k 0 = (fr w).getD (k - 1) 0 ∨ (fr w).getD k 0 = 0 - (fr w).getD (k - 1) 0))) → cnt (k + 1) = cnt k + 1) ∧ (¬ m = 1 → 0 < k → ((fr w).getD k 0 = (fr w).getD (k - 1) 0 ∨ (fr w).getD k 0 = 0 - (fr w).getD (k - 1) 0) → cnt (k + 1) = cnt k) := fun k => by
      have hsm : smB ((fr w).getD (k - 1) 0) ((fr w).getD k 0) = true ↔ ((fr w).getD k 0 = (fr w).getD (k - 1) 0 ∨ (fr w).getD k 0 = 0 - (fr w).getD (k - 1) 0) := by unfold smB; rw [decide_eq_true_eq]; omega
      have hr := Go.Wd.runN_le smB (fr w) k
      have hst : Go.Wd.runN smB (fr w) (k + 1) = if 0 < k ∧ smB ((fr w).getD (k - 1) 0) ((fr w).getD k 0) = true then Go.Wd.runN smB (fr w) k else Go.Wd.runN smB (fr w) k + 1 := rfl
      simp only [hsm] at hst
      rw [hcnt, hcnt]
      by_cases hm : m = 1
      · rw [if_pos hm, if_pos hm]; exact ⟨by omega, by omega, fun _ => by omega, fun h => absurd hm h⟩
      · rw [if_neg hm, if_neg hm]
        refine ⟨by omega, by omega, fun h => ?_, fun _ h1 h2 => ?_⟩
        · rw [hst, if_neg (h.resolve_left hm)]; omega
        · rw [hst, if_pos ⟨h1, h2⟩]
    have e0 : (0 : Int) = cnt 0 := hc0.symm
    refine awp_loop (ι := Nat) (fun k => [(7, .v (.int .i64 (k))), (6, .v (.int .i64 (cnt k))), (5, .list false 1 (fr w).length (cM iv 0 (fr w))), (1, .v (.int .i64 (m)))]) (fun k => Hp.emp) (fun k => k ≤ (fr w).length) (fun k => (fr w).length - k) 0 ?_ (Sub.toL (by simp only [go_sem] <;> first | trivial | (simp only [Option.some.injEq, AV.v.injEq, AV.own.injEq, AV.list.injEq, Value.int.injEq, Value.bool.injEq, true_and, and_true]; first | omega | (simp [hc0]; done)) | (simp [hc0]; done) | (simp [hc0]; omega)) (by (repeat' (first | exact Hp.le_emp _ | exact Hp.le_refl _ | refine Hp.le_upd ?_ ?_)); all_goals (first | rfl | (simp only [go_sem]; first | rfl | (refine cellsE ?_ ?_ <;> (simp [hc0])) | (simp [hc0]))))) ?_
    · exact Nat.zero_le _
    intro k hk
    have hbk := hb k
    have hbk1 := hb (k - 1)
    have e2 : ((k : Int) - 1).toNat = k - 1 := by omega
    have hck := hcs k
    repeat' (first | refine awp_seqK fun K hK => ?_ | (refine awp_regionK 144115188080116211 rfl ?_; simp only [List.map_cons, List.map_nil]; simp (maxSteps := 1000000) (dsimp := false) (implicitDefEqProofs := false) (disch := omega) only [wrap64, go_sem, e2]) | (refine awp_regionQK 144115188080116211 (by kernel_rfl) (by kernel_rfl) (by kernel_rfl) ?_; simp only [List.map_cons, List.map_nil]; simp (maxSteps := 1000000) (dsimp := false) (implicitDefEqProofs := false) (disch := omega) only [wrap64, go_sem, e2]) | refine awp_block ?_ | (refine awp_skip ?_; simp only [go_sem, e2]) | (refine awp_exit ?_; simp only [go_sem, e2]) | (refine awp_ret ?_; try simp only [go_sem, e2]) | (refine awp_condP rfl ?_; try simp only [go_sem, e2]) | (refine BrP.mk (fun h => ?_) (fun h => ?_) <;> try simp (dsimp := false) (disch := omega) only [wrap64]) | (refine Br.mk (fun h => ?_) (fun h => ?_) <;> try simp (dsimp := false) (disch := omega) only [wrap64]) | refine Ob.mk (by first | omega | (intro _ _; rfl) | trivial | (intros; trivial) | assumption | (intro i hi; have h0 : i = 0 := (by omega); subst h0; first | rfl | trivial) | (intro i hi; have h0 : i = 0 ∨ i = 1 := (by omega); rcases h0 with rfl | rfl <;> rfl) | (intro i hi; have h0 : i = 0 ∨ i = 1 ∨ i = 2 := (by omega); rcases h0 with rfl | rfl | rfl <;> rfl)) ?_ | apply_assumption -exfalso -symm)
    all_goals (first | (show endQ _ _ _ _ _ _ _; (repeat (rename (∀ (A : Fr) (H : Hp), AWP _ _ _ _ A H → _) => hK; clear hK)); (repeat (rename (Fr → Hp → Prop) => K; clear K))) | (show Exists _; (repeat (rename (∀ (A : Fr) (H : Hp), AWP _ _ _ _ A H → _) => hK; clear hK)); (repeat (rename (Fr → Hp → Prop) => K; clear K))) | skip)
    all_goals first
    | exact ⟨k + 1, by omega, by omega, Sub.toL (by simp only [go_sem] <;> first | trivial | (simp only [Option.some.injEq, AV.v.injEq, AV.own.injEq, AV.list.injEq, Value.int.injEq, Value.bool.injEq, true_and, and_true]; first | omega | (simp; done)) | (simp; done) | (simp; omega)) (Hp.le_refl _)⟩
    | (have e : k = (fr w).length := (by omega)
       subst e
       refine end_retV' rfl rfl ?_
       unfold wlP
       rw [if_pos ⟨hw, by assumption⟩, hcnt])
  all_goals
    refine end_retV' rfl rfl ?_
    unfold wlP
    rw [if_neg (by simp_all)]
end Go.Proofs.Ytcfnbahpdlmcpaa
end
/- Words one behind the other: both texts. -/
section
namespace Go.Proofs.Ytcfnbahpdlmcpaa
open Go.Av
set_option linter.unusedSimpArgs false
set_option linter.unusedVariables false
attribute [local irreducible] AWP CallG Ob Br BrP Go.Av.Sub endQ AOps OpV AC thenA blkA opsVC opVC withA withArgs opsQ opQ CallQ withA2 withArgs2
theorem fits_lit {H : Hp} {D : Nat → Prop} {h n : Nat} {xs : List (List Int)} {f : Nat → AV} (hH : H h = some (.cells n f)) (hD : D h) (hn : n = xs.length) (hf : ∀ i, i < n → Fits H D (f i) (ints (xs.getD i []))) : Fits H D (.own h 0 1 n) (intss xs) := by
  subst hn
  refine .own hH hD (by omega) (fun i hi => trivial) fun i hi => ?_
  rw [Nat.zero_add]
  exact hf i (by omega)
theorem fits_lit2 {H : Hp} {D : Nat → Prop} {h : Nat} {a b : List Int} {z : Nat → AV} (hH : H h = some (.cells 2 (setF (setF z 0 (ints a)) 1 (ints b)))) (hD : D h) : Fits H D (.own h 0 1 2) (intss [a, b]) :=
  fits_lit hH hD rfl fun i hi => by
    match i, hi with
    | 0, _ => exact .refl _
    | 1, _ => exact .refl _
theorem fits_lit3 {H : Hp} {D : Nat → Prop} {h : Nat} {a b c : List Int} {z : Nat → AV} (hH : H h = some (.cells 3 (setF (setF (setF z 0 (ints a)) 1 (ints b)) 2 (ints c)))) (hD : D h) : Fits H D (.own h 0 1 3) (intss [a, b, c]) :=
  fits_lit hH hD rfl fun i hi => by
    match i, hi with
    | 0, _ => exact .refl _
    | 1, _ => exact .refl _
    | 2, _ => exact .refl _
theorem fits_lit4 {H : Hp} {D : Nat → Prop} {h : Nat} {a b c e : List Int} {z : Nat → AV} (hH : H h = some (.cells 4 (setF (setF (setF (setF z 0 (ints a)) 1 (ints b)) 2 (ints c)) 3 (ints e)))) (hD : D h) : Fits H D (.own h 0 1 4) (intss [a, b, c, e]) :=
  fits_lit hH hD rfl fun i hi => by
    match i, hi with
    | 0, _ => exact .refl _
    | 1, _ => exact .refl _
    | 2, _ => exact .refl _
    | 3, _ => exact .refl _
theorem sliceGrow_ok (n : Nat) (hn : n ≤ 1048576) (d : Nat) : AC Try.prog 283 [.v (.slice none 0 0), .v (.int .i64 (n))] Hp.emp (fun _ => false) (retI d []) := by
  refine ac_of_awp (N := ⟨_, fun _ => false, fun _ _ => rfl⟩) Try.func283 rfl (by kernel_rfl) Try.ntmps283 (by simp) ?_
  simp only [argsFr, List.zipIdx_cons, List.zipIdx_nil, go_sem]
  repeat' (first | refine awp_seqK fun K hK => ?_ | (refine awp_regionK 65619 rfl ?_; simp only [List.map_cons, List.map_nil]; simp (maxSteps := 1000000) (dsimp := false) (implicitDefEqProofs := false) (disch := omega) only [wrap64, go_sem]) | (refine awp_regionQK 65619 (by kernel_rfl) (by kernel_rfl) (by kernel_rfl) ?_; simp only [List.map_cons, List.map_nil]; simp (maxSteps := 1000000) (dsimp := false) (implicitDefEqProofs := false) (disch := omega) only [wrap64, go_sem]) | refine awp_block ?_ | (refine awp_skip ?_; simp only [go_sem]) | (refine awp_exit ?_; simp only [go_sem]) | (refine awp_ret ?_; try simp only [go_sem]) | (refine awp_condP rfl ?_; try simp only [go_sem]) | (refine BrP.mk (fun h => ?_) (fun h => ?_) <;> try simp (dsimp := false) (disch := omega) only [wrap64]) | (refine Br.mk (fun h => ?_) (fun h => ?_) <;> try simp (dsimp := false) (disch := omega) only [wrap64]) | refine Ob.mk (by first | omega | (intro _ _; rfl) | trivial | (intros; trivial) | assumption | (intro i hi; have h0 : i = 0 := (by omega); subst h0; first | rfl | trivial) | (intro i hi; have h0 : i = 0 ∨ i = 1 := (by omega); rcases h0 with rfl | rfl <;> rfl) | (intro i hi; have h0 : i = 0 ∨ i = 1 ∨ i = 2 := (by omega); rcases h0 with rfl | rfl | rfl <;> rfl)) ?_ | apply_assumption -exfalso -symm)
  all_goals (first | (show endQ _ _ _ _ _ _ _; (repeat (rename (∀ (A : Fr) (H : Hp), AWP _ _ _ _ A H → _) => hK; clear hK)); (repeat (rename (Fr → Hp → Prop) => K; clear K))) | (show Exists _; (repeat (rename (∀ (A : Fr) (H : Hp), AWP _ _ _ _ A H → _) => hK; clear hK)); (repeat (rename (Fr → Hp → Prop) => K; clear K))) | skip)
  · omega
  · exact endQ_sub ((Sub.shrink (h := 22) (m := 0) rfl (by omega)).trans (Sub.cells (f' := cM iv 0 []) (fun i h => absurd h (by omega)))) (end_retI (m := 0) (h := 22) (xs := []) rfl rfl rfl rfl rfl)
  · exact end_retI_nil rfl rfl rfl
theorem flat_take (ws : List (List Int)) (k : Nat) : (ws.take k).flatten.length ≤ ws.flatten.length := by
  conv => rhs; rw [← List.take_append_drop k ws, List.flatten_append, List.length_append]
  omega
theorem flat_snoc (ws : List (List Int)) (k : Nat) (h : k < ws.length) : (ws.take (k + 1)).flatten = (ws.take k).flatten ++ ws.getD k [] := by
  rw [List.take_add_one, List.flatten_append, List.getD_eq_getElem?_getD, List.getElem?_eq_getElem h]
  simp
theorem sliceConcat_ok (ws : List (List Int)) (hl : ws.length ≤ 1048576) (ht : ws.flatten.length ≤ 1048576) (d : Nat) : AC Try.prog 232 [intss ws] Hp.emp (fun _ => false) (retI d ws.flatten) := by
  refine ac_of_awp (N := ⟨_, fun _ => false, fun _ _ => rfl⟩) Try.func232 rfl (by kernel_rfl) Try.ntmps232 (by simp) ?_
  simp only [argsFr, List.zipIdx_cons, List.zipIdx_nil, go_sem]
  repeat' (first | refine awp_seqK fun K hK => ?_ | (refine awp_regionK 504373101 rfl ?_; simp only [List.map_cons, List.map_nil]; simp (maxSteps := 1000000) (dsimp := false) (implicitDefEqProofs := false) (disch := omega) only [wrap64, go_sem]) | (refine awp_regionQK 504373101 (by kernel_rfl) (by kernel_rfl) (by kernel_rfl) ?_; simp only [List.map_cons, List.map_nil]; simp (maxSteps := 1000000) (dsimp := false) (implicitDefEqProofs := false) (disch := omega) only [wrap64, go_sem]) | refine awp_block ?_ | (refine awp_skip ?_; simp only [go_sem]) | (refine awp_exit ?_; simp only [go_sem]) | (refine awp_ret ?_; try simp only [go_sem]) | (refine awp_condP rfl ?_; try simp only [go_sem]) | (refine BrP.mk (fun h => ?_) (fun h => ?_) <;> try simp (dsimp := false) (disch := omega) only [wrap64]) | (refine Br.mk (fun h => ?_) (fun h => ?_) <;> try simp (dsimp := false) (disch := omega) only [wrap64]) | refine Ob.mk (by first | omega | (intro _ _; rfl) | trivial | (intros; trivial) | assumption | (intro i hi; have h0 : i = 0 := (by omega); subst h0; first | rfl | trivial) | (intro i hi; have h0 : i = 0 ∨ i = 1 := (by omega); rcases h0 with rfl | rfl <;> rfl) | (intro i hi; have h0 : i = 0 ∨ i = 1 ∨ i = 2 := (by omega); rcases h0 with rfl | rfl | rfl <;> rfl)) ?_ | apply_assumption -exfalso -symm)
  all_goals (first | (show endQ _ _ _ _ _ _ _; (repeat (rename (∀ (A : Fr) (H : Hp), AWP _ _ _ _ A H → _) => hK; clear hK)); (repeat (rename (Fr → Hp → Prop) => K; clear K))) | (show Exists _; (repeat (rename (∀ (A : Fr) (H : Hp), AWP _ _ _ _ A H → _) => hK; clear hK)); (repeat (rename (Fr → Hp → Prop) => K; clear K))) | skip)
  refine awp_loop (ι := Nat) (fun k => [(11, .v (.int .i64 (k))), (10, .v (.int .i64 (ws.length))), (9, .list false 1 (ws).length (cM ints [] (ws))), (0, .list false 1 (ws).length (cM ints [] (ws))), (3, .v (.int .i64 (((ws.take k).flatten.length : Nat))))]) (fun k => Hp.emp) (fun k => k ≤ ws.length) (fun k => ws.length - k) 0 ?_ (Sub.toL (by simp only [go_sem] <;> first | trivial | (simp only [Option.some.injEq, AV.v.injEq, AV.own.injEq, AV.list.injEq, Value.int.injEq, Value.bool.injEq, true_and, and_true]; first | omega | (simp; done)) | (simp; done) | (simp; omega)) (by (repeat' (first | exact Hp.le_emp _ | exact Hp.le_refl _ | refine Hp.le_upd ?_ ?_)); all_goals (first | rfl | (simp only [go_sem]; first | rfl | (refine cellsE ?_ ?_ <;> (simp)) | (simp))))) ?_
  · exact Nat.zero_le _
  · intro k hk
    have h1 := flat_take ws k
    have h2 := flat_take ws (k + 1)
    have h3 := fun h => congrArg List.length (flat_snoc ws k h)
    simp only [List.length_append] at h3
    repeat' (first | refine awp_seqK fun K hK => ?_ | (refine awp_regionK 504373101 rfl ?_; simp only [List.map_cons, List.map_nil]; simp (maxSteps := 1000000) (dsimp := false) (implicitDefEqProofs := false) (disch := omega) only [wrap64, go_sem]) | (refine awp_regionQK 504373101 (by kernel_rfl) (by kernel_rfl) (by kernel_rfl) ?_; simp only [List.map_cons, List.map_nil]; simp (maxSteps := 1000000) (dsimp := false) (implicitDefEqProofs := false) (disch := omega) only [wrap64, go_sem]) | refine awp_block ?_ | (refine awp_skip ?_; simp only [go_sem]) | (refine awp_exit ?_; simp only [go_sem]) | (refine awp_ret ?_; try simp only [go_sem]) | (refine awp_condP rfl ?_; try simp only [go_sem]) | (refine BrP.mk (fun h => ?_) (fun h => ?_) <;> try simp (dsimp := false) (disch := omega) only [wrap64]) | (refine Br.mk (fun h => ?_) (fun h => ?_) <;> try simp (dsimp := false) (disch := omega) only [wrap64]) | refine Ob.mk (by first | omega | (intro _ _; rfl) | trivial | (intros; trivial) | assumption | (intro i hi; have h0 : i = 0 := (by omega); subst h0; first | rfl | trivial) | (intro i hi; have h0 : i = 0 ∨ i = 1 := (by omega); rcases h0 with rfl | rfl <;> rfl) | (intro i hi; have h0 : i = 0 ∨ i = 1 ∨ i = 2 := (by omega); rcases h0 with rfl | rfl | rfl <;> rfl)) ?_ | apply_assumption -exfalso -symm)
    all_goals (first | (show endQ _ _ _ _ _ _ _; (repeat (rename (∀ (A : Fr) (H : Hp), AWP _ _ _ _ A H → _) => hK; clear hK)); (repeat (rename (Fr → Hp → Prop) => K; clear K))) | (show Exists _; (repeat (rename (∀ (A : Fr) (H : Hp), AWP _ _ _ _ A H → _) => hK; clear hK)); (repeat (rename (Fr → Hp → Prop) => K; clear K))) | skip)
    · omega
    · exact ⟨k + 1, by omega, by omega, Sub.toL (by simp only [go_sem] <;> first | trivial | (simp only [Option.some.injEq, AV.v.injEq, AV.own.injEq, AV.list.injEq, Value.int.injEq, Value.bool.injEq, true_and, and_true]; first | omega | (simp; done)) | (simp; done) | (simp; omega)) (Hp.le_refl _)⟩
    · have e : k = ws.length := by omega
      subst e
      rw [List.take_length]
      repeat' (first | refine awp_seqK fun K hK => ?_ | (refine awp_regionK 504373101 rfl ?_; simp only [List.map_cons, List.map_nil]; simp (maxSteps := 1000000) (dsimp := false) (implicitDefEqProofs := false) (disch := omega) only [wrap64, go_sem]) | (refine awp_regionQK 504373101 (by kernel_rfl) (by kernel_rfl) (by kernel_rfl) ?_; simp only [List.map_cons, List.map_nil]; simp (maxSteps := 1000000) (dsimp := false) (implicitDefEqProofs := false) (disch := omega) only [wrap64, go_sem]) | refine awp_block ?_ | (refine awp_skip ?_; simp only [go_sem]) | (refine awp_exit ?_; simp only [go_sem]) | (refine awp_ret ?_; try simp only [go_sem]) | (refine awp_condP rfl ?_; try simp only [go_sem]) | (refine BrP.mk (fun h => ?_) (fun h => ?_) <;> try simp (dsimp := false) (disch := omega) only [wrap64]) | (refine Br.mk (fun h => ?_) (fun h => ?_) <;> try simp (dsimp := false) (disch := omega) only [wrap64]) | refine Ob.mk (by first | omega | (intro _ _; rfl) | trivial | (intros; trivial) | assumption | (intro i hi; have h0 : i = 0 := (by omega); subst h0; first | rfl | trivial) | (intro i hi; have h0 : i = 0 ∨ i = 1 := (by omega); rcases h0 with rfl | rfl <;> rfl) | (intro i hi; have h0 : i = 0 ∨ i = 1 ∨ i = 2 := (by omega); rcases h0 with rfl | rfl | rfl <;> rfl)) ?_ | ((first | ((first | refine atF (f := 283) ?_ | refine atQ (f := 283) ?_); (first | (refine cI (hac := sliceGrow_ok ws.flatten.length ht 40) (hK := ?_)) | (refine cQI (hac := sliceGrow_ok ws.flatten.length ht 40) (hK := ?_))))); simp (maxSteps := 1000000) (dsimp := false) (implicitDefEqProofs := false) (disch := omega) only [wrap64, go_sem]) | apply_assumption -exfalso -symm)
      all_goals (first | (show endQ _ _ _ _ _ _ _; (repeat (rename (∀ (A : Fr) (H : Hp), AWP _ _ _ _ A H → _) => hK; clear hK)); (repeat (rename (Fr → Hp → Prop) => K; clear K))) | (show Exists _; (repeat (rename (∀ (A : Fr) (H : Hp), AWP _ _ _ _ A H → _) => hK; clear hK)); (repeat (rename (Fr → Hp → Prop) => K; clear K))) | skip)
      refine awp_loop (ι := Nat) (fun k => [(27, .v (.int .i64 (k))), (26, .v (.int .i64 (ws.length))), (25, .list false 1 (ws).length (cM ints [] (ws))), (6, .own 40 0 1 (ws.take k).flatten.length)]) (fun k => Hp.emp.upd 40 (.cells (ws.take k).flatten.length (cM iv 0 (ws.take k).flatten))) (fun k => k ≤ ws.length) (fun k => ws.length - k) 0 ?_ (Sub.toL (by simp only [go_sem] <;> first | trivial | (simp only [Option.some.injEq, AV.v.injEq, AV.own.injEq, AV.list.injEq, Value.int.injEq, Value.bool.injEq, true_and, and_true]; first | omega | (simp [List.take_zero, List.flatten_nil]; done)) | (simp [List.take_zero, List.flatten_nil]; done) | (simp [List.take_zero, List.flatten_nil]; omega)) (by (repeat' (first | exact Hp.le_emp _ | exact Hp.le_refl _ | refine Hp.le_upd ?_ ?_)); all_goals (first | rfl | (simp only [go_sem]; first | rfl | (refine cellsE ?_ ?_ <;> (simp [List.take_zero, List.flatten_nil])) | (simp [List.take_zero, List.flatten_nil]))))) ?_
      · exact Nat.zero_le _
      intro k hk
      have h1 := flat_take ws k
      have h2 := flat_take ws (k + 1)
      have h4 := flat_snoc ws k
      have h3 := fun h => congrArg List.length (flat_snoc ws k h)
      simp only [List.length_append] at h3
      repeat' (first | refine awp_seqK fun K hK => ?_ | (refine awp_regionK 504373101 rfl ?_; simp only [List.map_cons, List.map_nil]; simp (maxSteps := 1000000) (dsimp := false) (implicitDefEqProofs := false) (disch := omega) only [wrap64, go_sem]) | (refine awp_regionQK 504373101 (by kernel_rfl) (by kernel_rfl) (by kernel_rfl) ?_; simp only [List.map_cons, List.map_nil]; simp (maxSteps := 1000000) (dsimp := false) (implicitDefEqProofs := false) (disch := omega) only [wrap64, go_sem]) | refine awp_block ?_ | (refine awp_skip ?_; simp only [go_sem]) | (refine awp_exit ?_; simp only [go_sem]) | (refine awp_ret ?_; try simp only [go_sem]) | (refine awp_condP rfl ?_; try simp only [go_sem]) | (refine BrP.mk (fun h => ?_) (fun h => ?_) <;> try simp (dsimp := false) (disch := omega) only [wrap64]) | (refine Br.mk (fun h => ?_) (fun h => ?_) <;> try simp (dsimp := false) (disch := omega) only [wrap64]) | refine Ob.mk (by first | omega | (intro _ _; rfl) | trivial | (intros; trivial) | assumption | (intro i hi; have h0 : i = 0 := (by omega); subst h0; first | rfl | trivial) | (intro i hi; have h0 : i = 0 ∨ i = 1 := (by omega); rcases h0 with rfl | rfl <;> rfl) | (intro i hi; have h0 : i = 0 ∨ i = 1 ∨ i = 2 := (by omega); rcases h0 with rfl | rfl | rfl <;> rfl)) ?_ | apply_assumption -exfalso -symm)
      all_goals (first | (show endQ _ _ _ _ _ _ _; (repeat (rename (∀ (A : Fr) (H : Hp), AWP _ _ _ _ A H → _) => hK; clear hK)); (repeat (rename (Fr → Hp → Prop) => K; clear K))) | (show Exists _; (repeat (rename (∀ (A : Fr) (H : Hp), AWP _ _ _ _ A H → _) => hK; clear hK)); (repeat (rename (Fr → Hp → Prop) => K; clear K))) | skip)
      · have h5 := h4 (by omega)
        exact ⟨k + 1, by omega, by omega, Sub.toL (by simp only [go_sem] <;> first | trivial | (simp only [Option.some.injEq, AV.v.injEq, AV.own.injEq, AV.list.injEq, Value.int.injEq, Value.bool.injEq, true_and, and_true]; first | omega | (simp [h5]; done)) | (simp [h5]; done) | (simp [h5]; omega)) (by (repeat' (first | exact Hp.le_emp _ | exact Hp.le_refl _ | refine Hp.le_upd ?_ ?_)); all_goals (first | rfl | (simp only [go_sem]; first | rfl | (refine cellsE ?_ ?_ <;> (simp [h5])) | (simp [h5]))))⟩
      · have e : k = ws.length := by omega
        subst e
        rw [List.take_length]
        exact end_retI' rfl rfl rfl rfl rfl rfl
/-- Words one behind the other, if they are valid and not too long. -/
def joinP (ws : List (List Int)) : List Int × Bool := if (∀ j, j < ws.length → isW 8 (ws.getD j [])) ∧ ws.flatten.length ≤ 200 then (ws.flatten, true) else ([], false)
theorem joinP_len (ws : List (List Int)) : (joinP ws).1.length ≤ 200 := by
  unfold joinP; split
  · rename_i h; exact h.2
  · simp
theorem flat_bound : ∀ (ws : List (List Int)), (∀ j, j < ws.length → isW 8 (ws.getD j [])) → ws.flatten.length ≤ 200 * ws.length
  | [], _ => by simp
  | x :: ws, h => by
    have h0 := (h 0 (by simp)).1
    have ih := flat_bound ws fun j hj => h (j + 1) (by simpa using hj)
    rw [List.flatten_cons, List.length_append, List.length_cons]
    simp only [List.getD_cons_zero] at h0
    omega
theorem implJoinWords_ok (ws : List (List Int)) (hl : ws.length ≤ 8) (d : Nat) : AC Try.prog 128 [intss ws] Hp.emp (fun _ => false) (retIB d (joinP ws).1 (joinP ws).2) := by
  refine ac_of_awp (N := ⟨_, fun _ => false, fun _ _ => rfl⟩) Try.func128 rfl (by kernel_rfl) Try.ntmps128 (by simp) ?_
  simp only [argsFr, List.zipIdx_cons, List.zipIdx_nil, go_sem]
  repeat' (first | refine awp_seqK fun K hK => ?_ | (refine awp_regionK 2131949 rfl ?_; simp only [List.map_cons, List.map_nil]; simp (maxSteps := 1000000) (dsimp := false) (implicitDefEqProofs := false) (disch := omega) only [wrap64, go_sem]) | (refine awp_regionQK 2131949 (by kernel_rfl) (by kernel_rfl) (by kernel_rfl) ?_; simp only [List.map_cons, List.map_nil]; simp (maxSteps := 1000000) (dsimp := false) (implicitDefEqProofs := false) (disch := omega) only [wrap64, go_sem]) | refine awp_block ?_ | (refine awp_skip ?_; simp only [go_sem]) | (refine awp_exit ?_; simp only [go_sem]) | (refine awp_ret ?_; try simp only [go_sem]) | (refine awp_condP rfl ?_; try simp only [go_sem]) | (refine BrP.mk (fun h => ?_) (fun h => ?_) <;> try simp (dsimp := false) (disch := omega) only [wrap64]) | (refine Br.mk (fun h => ?_) (fun h => ?_) <;> try simp (dsimp := false) (disch := omega) only [wrap64]) | refine Ob.mk (by first | omega | (intro _ _; rfl) | trivial | (intros; trivial) | assumption | (intro i hi; have h0 : i = 0 := (by omega); subst h0; first | rfl | trivial) | (intro i hi; have h0 : i = 0 ∨ i = 1 := (by omega); rcases h0 with rfl | rfl <;> rfl) | (intro i hi; have h0 : i = 0 ∨ i = 1 ∨ i = 2 := (by omega); rcases h0 with rfl | rfl | rfl <;> rfl)) ?_ | apply_assumption -exfalso -symm)
  all_goals (first | (show endQ _ _ _ _ _ _ _; (repeat (rename (∀ (A : Fr) (H : Hp), AWP _ _ _ _ A H → _) => hK; clear hK)); (repeat (rename (Fr → Hp → Prop) => K; clear K))) | (show Exists _; (repeat (rename (∀ (A : Fr) (H : Hp), AWP _ _ _ _ A H → _) => hK; clear hK)); (repeat (rename (Fr → Hp → Prop) => K; clear K))) | skip)
  refine awp_loop (ι := Nat) (fun k => [(9, .v (.int .i64 (k))), (8, .v (.int .i64 (ws.length))), (7, .list false 1 (ws).length (cM ints [] (ws))), (0, .list false 1 (ws).length (cM ints [] (ws)))]) (fun k => Hp.emp) (fun k => k ≤ ws.length ∧ ∀ j, j < k → isW 8 (ws.getD j [])) (fun k => ws.length - k) 0 ?_ (Sub.toL (by simp only [go_sem] <;> first | trivial | (simp only [Option.some.injEq, AV.v.injEq, AV.own.injEq, AV.list.injEq, Value.int.injEq, Value.bool.injEq, true_and, and_true]; first | omega | (simp; done)) | (simp; done) | (simp; omega)) (by (repeat' (first | exact Hp.le_emp _ | exact Hp.le_refl _ | refine Hp.le_upd ?_ ?_)); all_goals (first | rfl | (simp only [go_sem]; first | rfl | (refine cellsE ?_ ?_ <;> (simp)) | (simp))))) ?_
  · exact ⟨Nat.zero_le _, fun j h => absurd h (Nat.not_lt_zero _)⟩
  intro k hk
  repeat' (first | refine awp_seqK fun K hK => ?_ | (refine awp_regionK 2131949 rfl ?_; simp only [List.map_cons, List.map_nil]; simp (maxSteps := 1000000) (dsimp := false) (implicitDefEqProofs := false) (disch := omega) only [wrap64, go_sem]) | (refine awp_regionQK 2131949 (by kernel_rfl) (by kernel_rfl) (by kernel_rfl) ?_; simp only [List.map_cons, List.map_nil]; simp (maxSteps := 1000000) (dsimp := false) (implicitDefEqProofs := false) (disch := omega) only [wrap64, go_sem]) | refine awp_block ?_ | (refine awp_skip ?_; simp only [go_sem]) | (refine awp_exit ?_; simp only [go_sem]) | (refine awp_ret ?_; try simp only [go_sem]) | (refine awp_condP rfl ?_; try simp only [go_sem]) | (refine BrP.mk (fun h => ?_) (fun h => ?_) <;> try simp (dsimp := false) (disch := omega) only [wrap64]) | (refine Br.mk (fun h => ?_) (fun h => ?_) <;> try simp (dsimp := false) (disch := omega) only [wrap64]) | refine Ob.mk (by first | omega | (intro _ _; rfl) | trivial | (intros; trivial) | assumption | (intro i hi; have h0 : i = 0 := (by omega); subst h0; first | rfl | trivial) | (intro i hi; have h0 : i = 0 ∨ i = 1 := (by omega); rcases h0 with rfl | rfl <;> rfl) | (intro i hi; have h0 : i = 0 ∨ i = 1 ∨ i = 2 := (by omega); rcases h0 with rfl | rfl | rfl <;> rfl)) ?_ | ((first | ((first | refine atF (f := 124) ?_ | refine atQ (f := 124) ?_); (first | (refine cV (hac := implIsWord_ok (ws.getD k [])) (hK := ?_)) | (refine cQV (hac := implIsWord_ok (ws.getD k [])) (hK := ?_))))); simp (maxSteps := 1000000) (dsimp := false) (implicitDefEqProofs := false) (disch := omega) only [wrap64, go_sem]) | apply_assumption -exfalso -symm)
  all_goals (first | (show endQ _ _ _ _ _ _ _; (repeat (rename (∀ (A : Fr) (H : Hp), AWP _ _ _ _ A H → _) => hK; clear hK)); (repeat (rename (Fr → Hp → Prop) => K; clear K))) | (show Exists _; (repeat (rename (∀ (A : Fr) (H : Hp), AWP _ _ _ _ A H → _) => hK; clear hK)); (repeat (rename (Fr → Hp → Prop) => K; clear K))) | skip)
  · refine ⟨k + 1, ?_, ?_, Sub.toL (by simp only [go_sem] <;> first | trivial | (simp only [Option.some.injEq, AV.v.injEq, AV.own.injEq, AV.list.injEq, Value.int.injEq, Value.bool.injEq, true_and, and_true]; first | omega | (simp; done)) | (simp; done) | (simp; omega)) (by (repeat' (first | exact Hp.le_emp _ | exact Hp.le_refl _ | refine Hp.le_upd ?_ ?_)); all_goals (first | rfl | (simp only [go_sem]; first | rfl | (refine cellsE ?_ ?_ <;> (simp)) | (simp))))⟩
    · refine ⟨by omega, fun j hj => ?_⟩
      by_cases e : j = k
      · subst e; assumption
      · exact hk.2 j (by omega)
    · omega
  · (first | refine end_retIB' rfl rfl rfl rfl ?_ (by decide) rfl rfl | refine end_retIB_nil' rfl rfl rfl ?_ (by decide) rfl)
    unfold joinP
    rw [if_neg]
    rintro ⟨h1, _⟩
    exact absurd (h1 k (by omega)) (by assumption)
  · have e : k = ws.length := by omega
    subst e
    have hb := flat_bound ws hk.2
    repeat' (first | refine awp_seqK fun K hK => ?_ | (refine awp_regionK 2131949 rfl ?_; simp only [List.map_cons, List.map_nil]; simp (maxSteps := 1000000) (dsimp := false) (implicitDefEqProofs := false) (disch := omega) only [wrap64, go_sem]) | (refine awp_regionQK 2131949 (by kernel_rfl) (by kernel_rfl) (by kernel_rfl) ?_; simp only [List.map_cons, List.map_nil]; simp (maxSteps := 1000000) (dsimp := false) (implicitDefEqProofs := false) (disch := omega) only [wrap64, go_sem]) | refine awp_block ?_ | (refine awp_skip ?_; simp only [go_sem]) | (refine awp_exit ?_; simp only [go_sem]) | (refine awp_ret ?_; try simp only [go_sem]) | (refine awp_condP rfl ?_; try simp only [go_sem]) | (refine BrP.mk (fun h => ?_) (fun h => ?_) <;> try simp (dsimp := false) (disch := omega) only [wrap64]) | (refine Br.mk (fun h => ?_) (fun h => ?_) <;> try simp (dsimp := false) (disch := omega) only [wrap64]) | refine Ob.mk (by first | omega | (intro _ _; rfl) | trivial | (intros; trivial) | assumption | (intro i hi; have h0 : i = 0 := (by omega); subst h0; first | rfl | trivial) | (intro i hi; have h0 : i = 0 ∨ i = 1 := (by omega); rcases h0 with rfl | rfl <;> rfl) | (intro i hi; have h0 : i = 0 ∨ i = 1 ∨ i = 2 := (by omega); rcases h0 with rfl | rfl | rfl <;> rfl)) ?_ | ((first | ((first | refine atF (f := 232) ?_ | refine atQ (f := 232) ?_); (first | (refine cI (hac := sliceConcat_ok ws (by omega) (by omega) 40) (hK := ?_)) | (refine cQI (hac := sliceConcat_ok ws (by omega) (by omega) 40) (hK := ?_))))); simp (maxSteps := 1000000) (dsimp := false) (implicitDefEqProofs := false) (disch := omega) only [wrap64, go_sem]) | apply_assumption -exfalso -symm)
    all_goals (first | (show endQ _ _ _ _ _ _ _; (repeat (rename (∀ (A : Fr) (H : Hp), AWP _ _ _ _ A H → _) => hK; clear hK)); (repeat (rename (Fr → Hp → Prop) => K; clear K))) | (show Exists _; (repeat (rename (∀ (A : Fr) (H : Hp), AWP _ _ _ _ A H → _) => hK; clear hK)); (repeat (rename (Fr → Hp → Prop) => K; clear K))) | skip)
    · (first | refine end_retIB' rfl rfl rfl rfl ?_ (by decide) rfl rfl | refine end_retIB_nil' rfl rfl rfl ?_ (by decide) rfl)
      unfold joinP
      rw [if_neg]
      rintro ⟨_, _⟩
      omega
    · (first | refine end_retIB' rfl rfl rfl rfl ?_ (by decide) rfl rfl | refine end_retIB_nil' rfl rfl rfl ?_ (by decide) rfl)
      unfold joinP
      rw [if_pos ⟨hk.2, by omega⟩]
theorem specConcatWords_ok (ws : List (List Int)) (hl : ws.length ≤ 8) (hall : ∀ j, (ws.getD j []).length ≤ 1048576) (d : Nat) : AC Try.prog 133 [intss ws] Hp.emp (fun _ => false) (retIB d (joinP ws).1 (joinP ws).2) := by
  refine ac_of_awp (N := ⟨_, fun _ => false, fun _ _ => rfl⟩) Try.func133 rfl (by kernel_rfl) Try.ntmps133 (by simp) ?_
  simp only [argsFr, List.zipIdx_cons, List.zipIdx_nil, go_sem]
  repeat' (first | refine awp_seqK fun K hK => ?_ | (refine awp_regionK 268698685 rfl ?_; simp only [List.map_cons, List.map_nil]; simp (maxSteps := 1000000) (dsimp := false) (implicitDefEqProofs := false) (disch := omega) only [wrap64, go_sem]) | (refine awp_regionQK 268698685 (by kernel_rfl) (by kernel_rfl) (by kernel_rfl) ?_; simp only [List.map_cons, List.map_nil]; simp (maxSteps := 1000000) (dsimp := false) (implicitDefEqProofs := false) (disch := omega) only [wrap64, go_sem]) | refine awp_block ?_ | (refine awp_skip ?_; simp only [go_sem]) | (refine awp_exit ?_; simp only [go_sem]) | (refine awp_ret ?_; try simp only [go_sem]) | (refine awp_condP rfl ?_; try simp only [go_sem]) | (refine BrP.mk (fun h => ?_) (fun h => ?_) <;> try simp (dsimp := false) (disch := omega) only [wrap64]) | (refine Br.mk (fun h => ?_) (fun h => ?_) <;> try simp (dsimp := false) (disch := omega) only [wrap64]) | refine Ob.mk (by first | omega | (intro _ _; rfl) | trivial | (intros; trivial) | assumption | (intro i hi; have h0 : i = 0 := (by omega); subst h0; first | rfl | trivial) | (intro i hi; have h0 : i = 0 ∨ i = 1 := (by omega); rcases h0 with rfl | rfl <;> rfl) | (intro i hi; have h0 : i = 0 ∨ i = 1 ∨ i = 2 := (by omega); rcases h0 with rfl | rfl | rfl <;> rfl)) ?_ | apply_assumption -exfalso -symm)
  all_goals (first | (show endQ _ _ _ _ _ _ _; (repeat (rename (∀ (A : Fr) (H : Hp), AWP _ _ _ _ A H → _) => hK; clear hK)); (repeat (rename (Fr → Hp → Prop) => K; clear K))) | (show Exists _; (repeat (rename (∀ (A : Fr) (H : Hp), AWP _ _ _ _ A H → _) => hK; clear hK)); (repeat (rename (Fr → Hp → Prop) => K; clear K))) | skip)
  refine awp_loop (ι := Nat) (fun k => [(5, .v (.int .i64 (k))), (0, .list false 1 (ws).length (cM ints [] (ws))), (4, .own 6 0 1 (ws.take k).flatten.length)]) (fun k => Hp.emp.upd 6 (.cells (ws.take k).flatten.length (cM iv 0 (ws.take k).flatten))) (fun k => k ≤ ws.length ∧ ∀ j, j < k → isW 8 (ws.getD j [])) (fun k => ws.length - k) 0 ?_ (Sub.toL (by simp only [go_sem] <;> first | trivial | (simp only [Option.some.injEq, AV.v.injEq, AV.own.injEq, AV.list.injEq, Value.int.injEq, Value.bool.injEq, true_and, and_true]; first | omega | (simp [List.take_zero, List.flatten_nil]; done)) | (simp [List.take_zero, List.flatten_nil]; done) | (simp [List.take_zero, List.flatten_nil]; omega)) (by (repeat' (first | exact Hp.le_emp _ | exact Hp.le_refl _ | refine Hp.le_upd ?_ ?_)); all_goals (first | rfl | (simp only [go_sem]; first | rfl | (refine cellsE ?_ ?_ <;> (simp [List.take_zero, List.flatten_nil])) | (simp [List.take_zero, List.flatten_nil]))))) ?_
  · exact ⟨Nat.zero_le _, fun j h => absurd h (Nat.not_lt_zero _)⟩
  intro k hk
  have hb := flat_bound (ws.take k) fun j hj => by
    rw [List.length_take] at hj
    rw [show (ws.take k).getD j [] = ws.getD j [] by simp [List.getD_eq_getElem?_getD, List.getElem?_take, show j < k by omega]]
    exact hk.2 j (by omega)
  rw [List.length_take] at hb
  have h4 := flat_snoc ws k
  have h6 := hall k
  repeat' (first | refine awp_seqK fun K hK => ?_ | (refine awp_regionK 268698685 rfl ?_; simp only [List.map_cons, List.map_nil]; simp (maxSteps := 1000000) (dsimp := false) (implicitDefEqProofs := false) (disch := omega) only [wrap64, go_sem]) | (refine awp_regionQK 268698685 (by kernel_rfl) (by kernel_rfl) (by kernel_rfl) ?_; simp only [List.map_cons, List.map_nil]; simp (maxSteps := 1000000) (dsimp := false) (implicitDefEqProofs := false) (disch := omega) only [wrap64, go_sem]) | refine awp_block ?_ | (refine awp_skip ?_; simp only [go_sem]) | (refine awp_exit ?_; simp only [go_sem]) | (refine awp_ret ?_; try simp only [go_sem]) | (refine awp_condP rfl ?_; try simp only [go_sem]) | (refine BrP.mk (fun h => ?_) (fun h => ?_) <;> try simp (dsimp := false) (disch := omega) only [wrap64]) | (refine Br.mk (fun h => ?_) (fun h => ?_) <;> try simp (dsimp := false) (disch := omega) only [wrap64]) | refine Ob.mk (by first | omega | (intro _ _; rfl) | trivial | (intros; trivial) | assumption | (intro i hi; have h0 : i = 0 := (by omega); subst h0; first | rfl | trivial) | (intro i hi; have h0 : i = 0 ∨ i = 1 := (by omega); rcases h0 with rfl | rfl <;> rfl) | (intro i hi; have h0 : i = 0 ∨ i = 1 ∨ i = 2 := (by omega); rcases h0 with rfl | rfl | rfl <;> rfl)) ?_ | ((first | ((first | refine atF (f := 126) ?_ | refine atQ (f := 126) ?_); (first | (refine cV (hac := isWord_ok (ws.getD k [])) (hK := ?_)) | (refine cQV (hac := isWord_ok (ws.getD k [])) (hK := ?_))))); simp (maxSteps := 1000000) (dsimp := false) (implicitDefEqProofs := false) (disch := omega) only [wrap64, go_sem]) | apply_assumption -exfalso -symm)
  all_goals (first | (show endQ _ _ _ _ _ _ _; (repeat (rename (∀ (A : Fr) (H : Hp), AWP _ _ _ _ A H → _) => hK; clear hK)); (repeat (rename (Fr → Hp → Prop) => K; clear K))) | (show Exists _; (repeat (rename (∀ (A : Fr) (H : Hp), AWP _ _ _ _ A H → _) => hK; clear hK)); (repeat (rename (Fr → Hp → Prop) => K; clear K))) | skip)
  · have h5 := h4 (by omega)
    refine ⟨k + 1, ?_, ?_, Sub.toL (by simp only [go_sem] <;> first | trivial | (simp only [Option.some.injEq, AV.v.injEq, AV.own.injEq, AV.list.injEq, Value.int.injEq, Value.bool.injEq, true_and, and_true]; first | omega | (simp [h5]; done)) | (simp [h5]; done) | (simp [h5]; omega)) (by (repeat' (first | exact Hp.le_emp _ | exact Hp.le_refl _ | refine Hp.le_upd ?_ ?_)); all_goals (first | rfl | (simp only [go_sem]; first | rfl | (refine cellsE ?_ ?_ <;> (simp [h5])) | (simp [h5]))))⟩
    · refine ⟨by omega, fun j hj => ?_⟩
      by_cases e : j = k
      · subst e; assumption
      · exact hk.2 j (by omega)
    · omega
  · (first | refine end_retIB' rfl rfl rfl rfl ?_ (by decide) rfl rfl | refine end_retIB_nil' rfl rfl rfl ?_ (by decide) rfl)
    unfold joinP
    rw [if_neg]
    · rfl
    rintro ⟨h1, _⟩
    exact absurd (h1 k (by omega)) (by assumption)
  · (first | refine end_retIB' rfl rfl rfl rfl ?_ (by decide) rfl rfl | refine end_retIB_nil' rfl rfl rfl ?_ (by decide) rfl)
    unfold joinP
    rw [if_neg]
    · rfl
    rintro ⟨_, _⟩
    have e : k = ws.length := by omega
    subst e
    rw [List.take_length] at *
    omega
  · have e : k = ws.length := by omega
    subst e
    rw [List.take_length] at *
    (first | refine end_retIB' rfl rfl rfl rfl ?_ (by decide) rfl rfl | refine end_retIB_nil' rfl rfl rfl ?_ (by decide) rfl)
    unfold joinP
    rw [if_pos ⟨hk.2, by omega⟩]
theorem implConcatX_ok (a b : List Int) (d : Nat) : AC Try.prog 23 [ints a, ints b] Hp.emp (fun _ => false) (retIB d (joinP [a, b]).1 (joinP [a, b]).2) := by
  refine ac_of_awp (N := ⟨_, fun _ => false, fun _ _ => rfl⟩) Try.func23 rfl (by kernel_rfl) Try.ntmps23 (by simp) ?_
  simp only [argsFr, List.zipIdx_cons, List.zipIdx_nil, go_sem]
  repeat' (first | refine awp_seqK fun K hK => ?_ | (refine awp_regionK 51 rfl ?_; simp only [List.map_cons, List.map_nil]; simp (maxSteps := 1000000) (dsimp := false) (implicitDefEqProofs := false) (disch := omega) only [wrap64, go_sem]) | (refine awp_regionQK 51 (by kernel_rfl) (by kernel_rfl) (by kernel_rfl) ?_; simp only [List.map_cons, List.map_nil]; simp (maxSteps := 1000000) (dsimp := false) (implicitDefEqProofs := false) (disch := omega) only [wrap64, go_sem]) | refine awp_block ?_ | (refine awp_skip ?_; simp only [go_sem]) | (refine awp_exit ?_; simp only [go_sem]) | (refine awp_ret ?_; try simp only [go_sem]) | (refine awp_condP rfl ?_; try simp only [go_sem]) | (refine BrP.mk (fun h => ?_) (fun h => ?_) <;> try simp (dsimp := false) (disch := omega) only [wrap64]) | (refine Br.mk (fun h => ?_) (fun h => ?_) <;> try simp (dsimp := false) (disch := omega) only [wrap64]) | refine Ob.mk (by first | omega | (intro _ _; rfl) | trivial | (intros; trivial) | assumption | (intro i hi; have h0 : i = 0 := (by omega); subst h0; first | rfl | trivial) | (intro i hi; have h0 : i = 0 ∨ i = 1 := (by omega); rcases h0 with rfl | rfl <;> rfl) | (intro i hi; have h0 : i = 0 ∨ i = 1 ∨ i = 2 := (by omega); rcases h0 with rfl | rfl | rfl <;> rfl)) ?_ | ((first | ((first | refine atF (f := 128) ?_ | refine atQ (f := 128) ?_); refine cIB (hfit := FitsL.cons (fits_lit2 rfl trivial) .nil) (hac := implJoinWords_ok [a, b] (by simp) 40) (hK := ?_))); simp (maxSteps := 1000000) (dsimp := false) (implicitDefEqProofs := false) (disch := omega) only [wrap64, go_sem]) | apply_assumption -exfalso -symm)
  all_goals (first | (show endQ _ _ _ _ _ _ _; (repeat (rename (∀ (A : Fr) (H : Hp), AWP _ _ _ _ A H → _) => hK; clear hK)); (repeat (rename (Fr → Hp → Prop) => K; clear K))) | (show Exists _; (repeat (rename (∀ (A : Fr) (H : Hp), AWP _ _ _ _ A H → _) => hK; clear hK)); (repeat (rename (Fr → Hp → Prop) => K; clear K))) | skip)
  (first | refine end_retIB' rfl rfl rfl rfl ?_ (by decide) rfl rfl | refine end_retIB_nil' rfl rfl rfl ?_ (by decide) rfl)
  rfl
theorem bd2 {a b : List Int} (ha : a.length ≤ 1048576) (hb : b.length ≤ 1048576) : ∀ j, ([a, b].getD j []).length ≤ 1048576 := fun j => by
  match j with
  | 0 => exact ha
  | 1 => exact hb
  | j + 2 => exact Nat.zero_le _
theorem specConcatX_ok (a b : List Int) (ha : a.length ≤ 1048576) (hb : b.length ≤ 1048576) (d : Nat) : AC Try.prog 33 [ints a, ints b] Hp.emp (fun _ => false) (retIB d (joinP [a, b]).1 (joinP [a, b]).2) := by
  refine ac_of_awp (N := ⟨_, fun _ => false, fun _ _ => rfl⟩) Try.func33 rfl (by kernel_rfl) Try.ntmps33 (by simp) ?_
  simp only [argsFr, List.zipIdx_cons, List.zipIdx_nil, go_sem]
  repeat' (first | refine awp_seqK fun K hK => ?_ | (refine awp_regionK 51 rfl ?_; simp only [List.map_cons, List.map_nil]; simp (maxSteps := 1000000) (dsimp := false) (implicitDefEqProofs := false) (disch := omega) only [wrap64, go_sem]) | (refine awp_regionQK 51 (by kernel_rfl) (by kernel_rfl) (by kernel_rfl) ?_; simp only [List.map_cons, List.map_nil]; simp (maxSteps := 1000000) (dsimp := false) (implicitDefEqProofs := false) (disch := omega) only [wrap64, go_sem]) | refine awp_block ?_ | (refine awp_skip ?_; simp only [go_sem]) | (refine awp_exit ?_; simp only [go_sem]) | (refine awp_ret ?_; try simp only [go_sem]) | (refine awp_condP rfl ?_; try simp only [go_sem]) | (refine BrP.mk (fun h => ?_) (fun h => ?_) <;> try simp (dsimp := false) (disch := omega) only [wrap64]) | (refine Br.mk (fun h => ?_) (fun h => ?_) <;> try simp (dsimp := false) (disch := omega) only [wrap64]) | refine Ob.mk (by first | omega | (intro _ _; rfl) | trivial | (intros; trivial) | assumption | (intro i hi; have h0 : i = 0 := (by omega); subst h0; first | rfl | trivial) | (intro i hi; have h0 : i = 0 ∨ i = 1 := (by omega); rcases h0 with rfl | rfl <;> rfl) | (intro i hi; have h0 : i = 0 ∨ i = 1 ∨ i = 2 := (by omega); rcases h0 with rfl | rfl | rfl <;> rfl)) ?_ | ((first | ((first | refine atF (f := 133) ?_ | refine atQ (f := 133) ?_); refine cIB (hfit := FitsL.cons (fits_lit2 rfl trivial) .nil) (hac := specConcatWords_ok [a, b] (by simp) (bd2 ha hb) 40) (hK := ?_))); simp (maxSteps := 1000000) (dsimp := false) (implicitDefEqProofs := false) (disch := omega) only [wrap64, go_sem]) | apply_assumption -exfalso -symm)
  all_goals (first | (show endQ _ _ _ _ _ _ _; (repeat (rename (∀ (A : Fr) (H : Hp), AWP _ _ _ _ A H → _) => hK; clear hK)); (repeat (rename (Fr → Hp → Prop) => K; clear K))) | (show Exists _; (repeat (rename (∀ (A : Fr) (H : Hp), AWP _ _ _ _ A H → _) => hK; clear hK)); (repeat (rename (Fr → Hp → Prop) => K; clear K))) | skip)
  (first | refine end_retIB' rfl rfl rfl rfl ?_ (by decide) rfl rfl | refine end_retIB_nil' rfl rfl rfl ?_ (by decide) rfl)
  rfl
theorem invG_ok {w : List Int} (h : isW 8 w) : invG w = inv w := back_negs w (isW_bd h)
theorem isW_inv {w : List Int} (h : isW 8 w) : isW 8 (inv w) := by
  refine ⟨by rw [inv_length]; exact h.1, fun j hj => ?_⟩
  rw [inv_length] at hj
  have h1 := h.2 (w.length - 1 - j) (by omega)
  have e : (inv w).getD j 0 = -(w.getD (w.length - 1 - j) 0) := by
    unfold inv
    rw [List.getD_eq_getElem?_getD, List.getElem?_reverse (by simpa using hj), List.getElem?_map, List.length_map, List.getD_eq_getElem?_getD, List.getElem?_eq_getElem (show w.length - 1 - j < w.length by omega)]
    rfl
  unfold isL at *
  rw [e]; omega
theorem joinP_bad {ws : List (List Int)} {j : Nat} (hj : j < ws.length) (h : ¬ isW 8 (ws.getD j [])) : joinP ws = ([], false) := if_neg fun h2 => h (h2.1 j hj)
theorem joinP_bad0 {a : List Int} {ws : List (List Int)} (h : ¬ isW 8 a) : joinP (a :: ws) = ([], false) := joinP_bad (j := 0) (by simp) h
theorem joinP_bad1 {a b : List Int} {ws : List (List Int)} (h : ¬ isW 8 b) : joinP (a :: b :: ws) = ([], false) := joinP_bad (j := 1) (by simp) h
/-- The commutator of two words, the conjugate of one. -/
def commP (a b : List Int) : List Int × Bool := joinP [a, b, inv a, inv b]
def conjP (a b : List Int) : List Int × Bool := joinP [a, b, inv a]
theorem comm_G (a b : List Int) : joinP [a, b, invG a, invG b] = commP a b := by
  by_cases ha : isW 8 a
  · by_cases hb : isW 8 b
    · unfold commP; rw [invG_ok ha, invG_ok hb]
    · unfold commP; rw [joinP_bad1 hb, joinP_bad1 hb]
  · unfold commP; rw [joinP_bad0 ha, joinP_bad0 ha]
theorem conj_G (a b : List Int) : joinP [a, b, invG a] = conjP a b := by
  by_cases ha : isW 8 a
  · unfold conjP; rw [invG_ok ha]
  · unfold conjP; rw [joinP_bad0 ha, joinP_bad0 ha]
theorem implCommutator_ok (a b : List Int) (ha : a.length ≤ 1048576) (hb : b.length ≤ 1048576) (d : Nat) : AC Try.prog 29 [ints a, ints b] Hp.emp (fun _ => false) (retIB d (commP a b).1 (commP a b).2) := by
  rw [← comm_G]
  refine ac_of_awp (N := ⟨_, fun _ => false, fun _ _ => rfl⟩) Try.func29 rfl (by kernel_rfl) Try.ntmps29 (by simp) ?_
  simp only [argsFr, List.zipIdx_cons, List.zipIdx_nil, go_sem]
  repeat' (first | refine awp_seqK fun K hK => ?_ | (refine awp_regionK 51 rfl ?_; simp only [List.map_cons, List.map_nil]; simp (maxSteps := 1000000) (dsimp := false) (implicitDefEqProofs := false) (disch := omega) only [wrap64, go_sem]) | (refine awp_regionQK 51 (by kernel_rfl) (by kernel_rfl) (by kernel_rfl) ?_; simp only [List.map_cons, List.map_nil]; simp (maxSteps := 1000000) (dsimp := false) (implicitDefEqProofs := false) (disch := omega) only [wrap64, go_sem]) | refine awp_block ?_ | (refine awp_skip ?_; simp only [go_sem]) | (refine awp_exit ?_; simp only [go_sem]) | (refine awp_ret ?_; try simp only [go_sem]) | (refine awp_condP rfl ?_; try simp only [go_sem]) | (refine BrP.mk (fun h => ?_) (fun h => ?_) <;> try simp (dsimp := false) (disch := omega) only [wrap64]) | (refine Br.mk (fun h => ?_) (fun h => ?_) <;> try simp (dsimp := false) (disch := omega) only [wrap64]) | refine Ob.mk (by first | omega | (intro _ _; rfl) | trivial | (intros; trivial) | assumption | (intro i hi; have h0 : i = 0 := (by omega); subst h0; first | rfl | trivial) | (intro i hi; have h0 : i = 0 ∨ i = 1 := (by omega); rcases h0 with rfl | rfl <;> rfl) | (intro i hi; have h0 : i = 0 ∨ i = 1 ∨ i = 2 := (by omega); rcases h0 with rfl | rfl | rfl <;> rfl)) ?_ | ((first | ((first | refine atF (f := 129) ?_ | refine atQ (f := 129) ?_); (first | (refine cFI (hac := inverseWordG_ok a ha 41) (hK := ?_)) | (refine cQI (hac := inverseWordG_ok a ha 41) (hK := ?_)))) | ((first | refine atF (f := 129) ?_ | refine atQ (f := 129) ?_); (first | (refine cFI (hac := inverseWordG_ok b hb 42) (hK := ?_)) | (refine cQI (hac := inverseWordG_ok b hb 42) (hK := ?_)))) | ((first | refine atF (f := 128) ?_ | refine atQ (f := 128) ?_); refine cIB (hfit := FitsL.cons (fits_lit4 rfl trivial) .nil) (hac := implJoinWords_ok [a, b, invG a, invG b] (by simp) 40) (hK := ?_))); simp (maxSteps := 1000000) (dsimp := false) (implicitDefEqProofs := false) (disch := omega) only [wrap64, go_sem]) | apply_assumption -exfalso -symm)
  all_goals (first | (show endQ _ _ _ _ _ _ _; (repeat (rename (∀ (A : Fr) (H : Hp), AWP _ _ _ _ A H → _) => hK; clear hK)); (repeat (rename (Fr → Hp → Prop) => K; clear K))) | (show Exists _; (repeat (rename (∀ (A : Fr) (H : Hp), AWP _ _ _ _ A H → _) => hK; clear hK)); (repeat (rename (Fr → Hp → Prop) => K; clear K))) | skip)
  (first | refine end_retIB' rfl rfl rfl rfl ?_ (by decide) rfl rfl | refine end_retIB_nil' rfl rfl rfl ?_ (by decide) rfl)
  rfl
theorem implConjugateW_ok (a b : List Int) (ha : a.length ≤ 1048576) (d : Nat) : AC Try.prog 30 [ints a, ints b] Hp.emp (fun _ => false) (retIB d (conjP a b).1 (conjP a b).2) := by
  rw [← conj_G]
  refine ac_of_awp (N := ⟨_, fun _ => false, fun _ _ => rfl⟩) Try.func30 rfl (by kernel_rfl) Try.ntmps30 (by simp) ?_
  simp only [argsFr, List.zipIdx_cons, List.zipIdx_nil, go_sem]
  repeat' (first | refine awp_seqK fun K hK => ?_ | (refine awp_regionK 51 rfl ?_; simp only [List.map_cons, List.map_nil]; simp (maxSteps := 1000000) (dsimp := false) (implicitDefEqProofs := false) (disch := omega) only [wrap64, go_sem]) | (refine awp_regionQK 51 (by kernel_rfl) (by kernel_rfl) (by kernel_rfl) ?_; simp only [List.map_cons, List.map_nil]; simp (maxSteps := 1000000) (dsimp := false) (implicitDefEqProofs := false) (disch := omega) only [wrap64, go_sem]) | refine awp_block ?_ | (refine awp_skip ?_; simp only [go_sem]) | (refine awp_exit ?_; simp only [go_sem]) | (refine awp_ret ?_; try simp only [go_sem]) | (refine awp_condP rfl ?_; try simp only [go_sem]) | (refine BrP.mk (fun h => ?_) (fun h => ?_) <;> try simp (dsimp := false) (disch := omega) only [wrap64]) | (refine Br.mk (fun h => ?_) (fun h => ?_) <;> try simp (dsimp := false) (disch := omega) only [wrap64]) | refine Ob.mk (by first | omega | (intro _ _; rfl) | trivial | (intros; trivial) | assumption | (intro i hi; have h0 : i = 0 := (by omega); subst h0; first | rfl | trivial) | (intro i hi; have h0 : i = 0 ∨ i = 1 := (by omega); rcases h0 with rfl | rfl <;> rfl) | (intro i hi; have h0 : i = 0 ∨ i = 1 ∨ i = 2 := (by omega); rcases h0 with rfl | rfl | rfl <;> rfl)) ?_ | ((first | ((first | refine atF (f := 129) ?_ | refine atQ (f := 129) ?_); (first | (refine cFI (hac := inverseWordG_ok a ha 41) (hK := ?_)) | (refine cQI (hac := inverseWordG_ok a ha 41) (hK := ?_)))) | ((first | refine atF (f := 128) ?_ | refine atQ (f := 128) ?_); refine cIB (hfit := FitsL.cons (fits_lit3 rfl trivial) .nil) (hac := implJoinWords_ok [a, b, invG a] (by simp) 40) (hK := ?_))); simp (maxSteps := 1000000) (dsimp := false) (implicitDefEqProofs := false) (disch := omega) only [wrap64, go_sem]) | apply_assumption -exfalso -symm)
  all_goals (first | (show endQ _ _ _ _ _ _ _; (repeat (rename (∀ (A : Fr) (H : Hp), AWP _ _ _ _ A H → _) => hK; clear hK)); (repeat (rename (Fr → Hp → Prop) => K; clear K))) | (show Exists _; (repeat (rename (∀ (A : Fr) (H : Hp), AWP _ _ _ _ A H → _) => hK; clear hK)); (repeat (rename (Fr → Hp → Prop) => K; clear K))) | skip)
  (first | refine end_retIB' rfl rfl rfl rfl ?_ (by decide) rfl rfl | refine end_retIB_nil' rfl rfl rfl ?_ (by decide) rfl)
  rfl
theorem bd4 {a b c e : List Int} (ha : a.length ≤ 1048576) (hb : b.length ≤ 1048576) (hc : c.length ≤ 1048576) (he : e.length ≤ 1048576) : ∀ j, ([a, b, c, e].getD j []).length ≤ 1048576 := fun j => by
  match j with
  | 0 => exact ha
  | 1 => exact hb
  | 2 => exact hc
  | 3 => exact he
  | j + 4 => exact Nat.zero_le _
theorem bd3 {a b c : List Int} (ha : a.length ≤ 1048576) (hb : b.length ≤ 1048576) (hc : c.length ≤ 1048576) : ∀ j, ([a, b, c].getD j []).length ≤ 1048576 := fun j => by
  match j with
  | 0 => exact ha
  | 1 => exact hb
  | 2 => exact hc
  | j + 3 => exact Nat.zero_le _
theorem specCommutator_ok (a b : List Int) (ha : a.length ≤ 1048576) (hb : b.length ≤ 1048576) (d : Nat) : AC Try.prog 31 [ints a, ints b] Hp.emp (fun _ => false) (retIB d (commP a b).1 (commP a b).2) := by
  have h1 := inv_length a
  have h2 := inv_length b
  refine ac_of_awp (N := ⟨_, fun _ => false, fun _ _ => rfl⟩) Try.func31 rfl (by kernel_rfl) Try.ntmps31 (by simp) ?_
  simp only [argsFr, List.zipIdx_cons, List.zipIdx_nil, go_sem]
  repeat' (first | refine awp_seqK fun K hK => ?_ | (refine awp_regionK 8243 rfl ?_; simp only [List.map_cons, List.map_nil]; simp (maxSteps := 1000000) (dsimp := false) (implicitDefEqProofs := false) (disch := omega) only [wrap64, go_sem]) | (refine awp_regionQK 8243 (by kernel_rfl) (by kernel_rfl) (by kernel_rfl) ?_; simp only [List.map_cons, List.map_nil]; simp (maxSteps := 1000000) (dsimp := false) (implicitDefEqProofs := false) (disch := omega) only [wrap64, go_sem]) | refine awp_block ?_ | (refine awp_skip ?_; simp only [go_sem]) | (refine awp_exit ?_; simp only [go_sem]) | (refine awp_ret ?_; try simp only [go_sem]) | (refine awp_condP rfl ?_; try simp only [go_sem]) | (refine BrP.mk (fun h => ?_) (fun h => ?_) <;> try simp (dsimp := false) (disch := omega) only [wrap64]) | (refine Br.mk (fun h => ?_) (fun h => ?_) <;> try simp (dsimp := false) (disch := omega) only [wrap64]) | refine Ob.mk (by first | omega | (intro _ _; rfl) | trivial | (intros; trivial) | assumption | (intro i hi; have h0 : i = 0 := (by omega); subst h0; first | rfl | trivial) | (intro i hi; have h0 : i = 0 ∨ i = 1 := (by omega); rcases h0 with rfl | rfl <;> rfl) | (intro i hi; have h0 : i = 0 ∨ i = 1 ∨ i = 2 := (by omega); rcases h0 with rfl | rfl | rfl <;> rfl)) ?_ | ((first | ((first | refine atF (f := 126) ?_ | refine atQ (f := 126) ?_); (first | (refine cV (hac := isWord_ok a) (hK := ?_)) | (refine cQV (hac := isWord_ok a) (hK := ?_)))) | ((first | refine atF (f := 126) ?_ | refine atQ (f := 126) ?_); (first | (refine cV (hac := isWord_ok b) (hK := ?_)) | (refine cQV (hac := isWord_ok b) (hK := ?_)))) | ((first | refine atF (f := 134) ?_ | refine atQ (f := 134) ?_); (first | (refine cFI (hac := invertWord_okW a (by assumption) 41) (hK := ?_)) | (refine cQI (hac := invertWord_okW a (by assumption) 41) (hK := ?_)))) | ((first | refine atF (f := 134) ?_ | refine atQ (f := 134) ?_); (first | (refine cFI (hac := invertWord_okW b (by assumption) 42) (hK := ?_)) | (refine cQI (hac := invertWord_okW b (by assumption) 42) (hK := ?_)))) | ((first | refine atF (f := 133) ?_ | refine atQ (f := 133) ?_); refine cIB (hfit := FitsL.cons (fits_lit4 rfl trivial) .nil) (hac := specConcatWords_ok [a, b, inv a, inv b] (by simp) (bd4 ha hb (by omega) (by omega)) 40) (hK := ?_))); simp (maxSteps := 1000000) (dsimp := false) (implicitDefEqProofs := false) (disch := omega) only [wrap64, go_sem]) | apply_assumption -exfalso -symm)
  all_goals (first | (show endQ _ _ _ _ _ _ _; (repeat (rename (∀ (A : Fr) (H : Hp), AWP _ _ _ _ A H → _) => hK; clear hK)); (repeat (rename (Fr → Hp → Prop) => K; clear K))) | (show Exists _; (repeat (rename (∀ (A : Fr) (H : Hp), AWP _ _ _ _ A H → _) => hK; clear hK)); (repeat (rename (Fr → Hp → Prop) => K; clear K))) | skip)
  · (first | refine end_retIB' rfl rfl rfl rfl ?_ (by decide) rfl rfl | refine end_retIB_nil' rfl rfl rfl ?_ (by decide) rfl)
    rfl
  all_goals
    (first | refine end_retIB' rfl rfl rfl rfl ?_ (by decide) rfl rfl | refine end_retIB_nil' rfl rfl rfl ?_ (by decide) rfl)
    unfold commP
    first
    | (rw [joinP_bad0 (by assumption)]; rfl)
    | (rw [joinP_bad1 (by assumption)]; rfl)
theorem specConjugateW_ok (a b : List Int) (ha : a.length ≤ 1048576) (hb : b.length ≤ 1048576) (d : Nat) : AC Try.prog 32 [ints a, ints b] Hp.emp (fun _ => false) (retIB d (conjP a b).1 (conjP a b).2) := by
  have h1 := inv_length a
  refine ac_of_awp (N := ⟨_, fun _ => false, fun _ _ => rfl⟩) Try.func32 rfl (by kernel_rfl) Try.ntmps32 (by simp) ?_
  simp only [argsFr, List.zipIdx_cons, List.zipIdx_nil, go_sem]
  repeat' (first | refine awp_seqK fun K hK => ?_ | (refine awp_regionK 8243 rfl ?_; simp only [List.map_cons, List.map_nil]; simp (maxSteps := 1000000) (dsimp := false) (implicitDefEqProofs := false) (disch := omega) only [wrap64, go_sem]) | (refine awp_regionQK 8243 (by kernel_rfl) (by kernel_rfl) (by kernel_rfl) ?_; simp only [List.map_cons, List.map_nil]; simp (maxSteps := 1000000) (dsimp := false) (implicitDefEqProofs := false) (disch := omega) only [wrap64, go_sem]) | refine awp_block ?_ | (refine awp_skip ?_; simp only [go_sem]) | (refine awp_exit ?_; simp only [go_sem]) | (refine awp_ret ?_; try simp only [go_sem]) | (refine awp_condP rfl ?_; try simp only [go_sem]) | (refine BrP.mk (fun h => ?_) (fun h => ?_) <;> try simp (dsimp := false) (disch := omega) only [wrap64]) | (refine Br.mk (fun h => ?_) (fun h => ?_) <;> try simp (dsimp := false) (disch := omega) only [wrap64]) | refine Ob.mk (by first | omega | (intro _ _; rfl) | trivial | (intros; trivial) | assumption | (intro i hi; have h0 : i = 0 := (by omega); subst h0; first | rfl | trivial) | (intro i hi; have h0 : i = 0 ∨ i = 1 := (by omega); rcases h0 with rfl | rfl <;> rfl) | (intro i hi; have h0 : i = 0 ∨ i = 1 ∨ i = 2 := (by omega); rcases h0 with rfl | rfl | rfl <;> rfl)) ?_ | ((first | ((first | refine atF (f := 126) ?_ | refine atQ (f := 126) ?_); (first | (refine cV (hac := isWord_ok a) (hK := ?_)) | (refine cQV (hac := isWord_ok a) (hK := ?_)))) | ((first | refine atF (f := 126) ?_ | refine atQ (f := 126) ?_); (first | (refine cV (hac := isWord_ok b) (hK := ?_)) | (refine cQV (hac := isWord_ok b) (hK := ?_)))) | ((first | refine atF (f := 134) ?_ | refine atQ (f := 134) ?_); (first | (refine cFI (hac := invertWord_okW a (by assumption) 41) (hK := ?_)) | (refine cQI (hac := invertWord_okW a (by assumption) 41) (hK := ?_)))) | ((first | refine atF (f := 133) ?_ | refine atQ (f := 133) ?_); refine cIB (hfit := FitsL.cons (fits_lit3 rfl trivial) .nil) (hac := specConcatWords_ok [a, b, inv a] (by simp) (bd3 ha hb (by omega)) 40) (hK := ?_))); simp (maxSteps := 1000000) (dsimp := false) (implicitDefEqProofs := false) (disch := omega) only [wrap64, go_sem]) | apply_assumption -exfalso -symm)
  all_goals (first | (show endQ _ _ _ _ _ _ _; (repeat (rename (∀ (A : Fr) (H : Hp), AWP _ _ _ _ A H → _) => hK; clear hK)); (repeat (rename (Fr → Hp → Prop) => K; clear K))) | (show Exists _; (repeat (rename (∀ (A : Fr) (H : Hp), AWP _ _ _ _ A H → _) => hK; clear hK)); (repeat (rename (Fr → Hp → Prop) => K; clear K))) | skip)
  · (first | refine end_retIB' rfl rfl rfl rfl ?_ (by decide) rfl rfl | refine end_retIB_nil' rfl rfl rfl ?_ (by decide) rfl)
    rfl
  all_goals
    (first | refine end_retIB' rfl rfl rfl rfl ?_ (by decide) rfl rfl | refine end_retIB_nil' rfl rfl rfl ?_ (by decide) rfl)
    unfold conjP
    first
    | (rw [joinP_bad0 (by assumption)]; rfl)
    | (rw [joinP_bad1 (by assumption)]; rfl)
def invP (w : List Int) : List Int := if isW 8 w then inv w else []
theorem invP_len (w : List Int) : (invP w).length ≤ 200 := by
  unfold invP; split
  · rename_i h; rw [inv_length]; exact h.1
  · simp
theorem implInvertWord_ok (w : List Int) (d : Nat) : AC Try.prog 24 [ints w] Hp.emp (fun _ => false) (retI d (invP w)) := by
  refine ac_of_awp (N := ⟨_, fun _ => false, fun _ _ => rfl⟩) Try.func24 rfl (by kernel_rfl) Try.ntmps24 (by simp) ?_
  simp only [argsFr, List.zipIdx_cons, List.zipIdx_nil, go_sem]
  repeat' (first | refine awp_seqK fun K hK => ?_ | (refine awp_regionK 37 rfl ?_; simp only [List.map_cons, List.map_nil]; simp (maxSteps := 1000000) (dsimp := false) (implicitDefEqProofs := false) (disch := omega) only [wrap64, go_sem]) | (refine awp_regionQK 37 (by kernel_rfl) (by kernel_rfl) (by kernel_rfl) ?_; simp only [List.map_cons, List.map_nil]; simp (maxSteps := 1000000) (dsimp := false) (implicitDefEqProofs := false) (disch := omega) only [wrap64, go_sem]) | refine awp_block ?_ | (refine awp_skip ?_; simp only [go_sem]) | (refine awp_exit ?_; simp only [go_sem]) | (refine awp_ret ?_; try simp only [go_sem]) | (refine awp_condP rfl ?_; try simp only [go_sem]) | (refine BrP.mk (fun h => ?_) (fun h => ?_) <;> try simp (dsimp := false) (disch := omega) only [wrap64]) | (refine Br.mk (fun h => ?_) (fun h => ?_) <;> try simp (dsimp := false) (disch := omega) only [wrap64]) | refine Ob.mk (by first | omega | (intro _ _; rfl) | trivial | (intros; trivial) | assumption | (intro i hi; have h0 : i = 0 := (by omega); subst h0; first | rfl | trivial) | (intro i hi; have h0 : i = 0 ∨ i = 1 := (by omega); rcases h0 with rfl | rfl <;> rfl) | (intro i hi; have h0 : i = 0 ∨ i = 1 ∨ i = 2 := (by omega); rcases h0 with rfl | rfl | rfl <;> rfl)) ?_ | ((first | ((first | refine atF (f := 124) ?_ | refine atQ (f := 124) ?_); (first | (refine cV (hac := implIsWord_ok w) (hK := ?_)) | (refine cQV (hac := implIsWord_ok w) (hK := ?_)))) | ((first | refine atF (f := 129) ?_ | refine atQ (f := 129) ?_); (first | (refine cI (hac := inverseWord_okW w (by assumption) 41) (hK := ?_)) | (refine cQI (hac := inverseWord_okW w (by assumption) 41) (hK := ?_))))); simp (maxSteps := 1000000) (dsimp := false) (implicitDefEqProofs := false) (disch := omega) only [wrap64, go_sem]) | apply_assumption -exfalso -symm)
  all_goals (first | (show endQ _ _ _ _ _ _ _; (repeat (rename (∀ (A : Fr) (H : Hp), AWP _ _ _ _ A H → _) => hK; clear hK)); (repeat (rename (Fr → Hp → Prop) => K; clear K))) | (show Exists _; (repeat (rename (∀ (A : Fr) (H : Hp), AWP _ _ _ _ A H → _) => hK; clear hK)); (repeat (rename (Fr → Hp → Prop) => K; clear K))) | skip)
  all_goals
    (first | refine end_retI' rfl rfl rfl ?_ rfl rfl | refine end_retI_nil' rfl rfl ?_ rfl)
    unfold invP
    first
    | (rw [if_pos (by assumption)]; done)
    | (rw [if_neg (by assumption)]; first | done | rfl)
theorem specInvertWord_ok (w : List Int) (d : Nat) : AC Try.prog 34 [ints w] Hp.emp (fun _ => false) (retI d (invP w)) := by
  refine ac_of_awp (N := ⟨_, fun _ => false, fun _ _ => rfl⟩) Try.func34 rfl (by kernel_rfl) Try.ntmps34 (by simp) ?_
  simp only [argsFr, List.zipIdx_cons, List.zipIdx_nil, go_sem]
  repeat' (first | refine awp_seqK fun K hK => ?_ | (refine awp_regionK 37 rfl ?_; simp only [List.map_cons, List.map_nil]; simp (maxSteps := 1000000) (dsimp := false) (implicitDefEqProofs := false) (disch := omega) only [wrap64, go_sem]) | (refine awp_regionQK 37 (by kernel_rfl) (by kernel_rfl) (by kernel_rfl) ?_; simp only [List.map_cons, List.map_nil]; simp (maxSteps := 1000000) (dsimp := false) (implicitDefEqProofs := false) (disch := omega) only [wrap64, go_sem]) | refine awp_block ?_ | (refine awp_skip ?_; simp only [go_sem]) | (refine awp_exit ?_; simp only [go_sem]) | (refine awp_ret ?_; try simp only [go_sem]) | (refine awp_condP rfl ?_; try simp only [go_sem]) | (refine BrP.mk (fun h => ?_) (fun h => ?_) <;> try simp (dsimp := false) (disch := omega) only [wrap64]) | (refine Br.mk (fun h => ?_) (fun h => ?_) <;> try simp (dsimp := false) (disch := omega) only [wrap64]) | refine Ob.mk (by first | omega | (intro _ _; rfl) | trivial | (intros; trivial) | assumption | (intro i hi; have h0 : i = 0 := (by omega); subst h0; first | rfl | trivial) | (intro i hi; have h0 : i = 0 ∨ i = 1 := (by omega); rcases h0 with rfl | rfl <;> rfl) | (intro i hi; have h0 : i = 0 ∨ i = 1 ∨ i = 2 := (by omega); rcases h0 with rfl | rfl | rfl <;> rfl)) ?_ | ((first | ((first | refine atF (f := 126) ?_ | refine atQ (f := 126) ?_); (first | (refine cV (hac := isWord_ok w) (hK := ?_)) | (refine cQV (hac := isWord_ok w) (hK := ?_)))) | ((first | refine atF (f := 134) ?_ | refine atQ (f := 134) ?_); (first | (refine cI (hac := invertWord_okW w (by assumption) 41) (hK := ?_)) | (refine cQI (hac := invertWord_okW w (by assumption) 41) (hK := ?_))))); simp (maxSteps := 1000000) (dsimp := false) (implicitDefEqProofs := false) (disch := omega) only [wrap64, go_sem]) | apply_assumption -exfalso -symm)
  all_goals (first | (show endQ _ _ _ _ _ _ _; (repeat (rename (∀ (A : Fr) (H : Hp), AWP _ _ _ _ A H → _) => hK; clear hK)); (repeat (rename (Fr → Hp → Prop) => K; clear K))) | (show Exists _; (repeat (rename (∀ (A : Fr) (H : Hp), AWP _ _ _ _ A H → _) => hK; clear hK)); (repeat (rename (Fr → Hp → Prop) => K; clear K))) | skip)
  all_goals
    (first | refine end_retI' rfl rfl rfl ?_ rfl rfl | refine end_retI_nil' rfl rfl ?_ rfl)
    unfold invP
    first
    | (rw [if_pos (by assumption)]; first | done | rfl)
    | (rw [if_neg (by assumption)]; first | done | rfl)
end Go.Proofs.Ytcfnbahpdlmcpaa
end
/- Which of two words is less: both texts, any words. -/
section
namespace Go.Proofs.Ytcfnbahpdlmcpaa
open Go.Av
set_option linter.unusedSimpArgs false
set_option linter.unusedVariables false
attribute [local irreducible] AWP CallG Ob Br BrP Go.Av.Sub endQ AOps OpV AC thenA blkA opsVC opVC withA withArgs opsQ opQ CallQ withA2 withArgs2
/-- The first letters that differ say which word is less. -/
def wlx : List Int → List Int → Int
  | x :: xs, y :: ys => if x = y then wlx xs ys else rk x - rk y
  | _, _ => 0
theorem wlx_at : ∀ (a b : List Int) (k : Nat), k < a.length → k < b.length → (∀ j, j < k → a.getD j 0 = b.getD j 0) → a.getD k 0 ≠ b.getD k 0 → wlx a b = rk (a.getD k 0) - rk (b.getD k 0)
  | [], _, k, h, _, _, _ => absurd h (by simp)
  | _ :: _, [], k, _, h, _, _ => absurd h (by simp)
  | x :: xs, y :: ys, 0, _, _, _, hne => by
    have h : x ≠ y := hne
    show (if x = y then _ else _) = _
    rw [if_neg h]; rfl
  | x :: xs, y :: ys, k + 1, h1, h2, he, hne => by
    have h0 : x = y := he 0 (by omega)
    show (if x = y then _ else _) = _
    rw [if_pos h0]
    exact wlx_at xs ys k (by simpa using h1) (by simpa using h2) (fun j hj => he (j + 1) (by omega)) hne
theorem wlx_eq : ∀ (a b : List Int), a.length = b.length → (∀ j, j < a.length → a.getD j 0 = b.getD j 0) → wlx a b = 0
  | [], _, _, _ => by unfold wlx; rfl
  | _ :: _, [], h, _ => absurd h (by simp)
  | x :: xs, y :: ys, h, he => by
    have h0 : x = y := he 0 (by simp)
    show (if x = y then _ else _) = _
    rw [if_pos h0]
    exact wlx_eq xs ys (by simpa using h) fun j hj => he (j + 1) (by simpa using hj)
theorem wlx_anti : ∀ (a b : List Int), wlx a b = -wlx b a
  | [], [] => rfl
  | [], _ :: _ => rfl
  | _ :: _, [] => rfl
  | x :: xs, y :: ys => by
    show (if x = y then _ else _) = -(if y = x then _ else _)
    by_cases h : x = y
    · rw [if_pos h, if_pos h.symm, wlx_anti xs ys]
    · rw [if_neg h, if_neg (Ne.symm h)]; omega
def cmpW (a b : List Int) : Int := if a.length ≠ b.length then (a.length : Int) - b.length else wlx a b
def lessW (a b : List Int) : Prop := isW 8 a ∧ isW 8 b ∧ cmpW a b < 0
instance (a b : List Int) : Decidable (lessW a b) := by unfold lessW; infer_instance
theorem less_asym {a b : List Int} (h : lessW a b) : ¬ lessW b a := fun h2 => by
  have h3 := h.2.2
  have h4 := h2.2.2
  unfold cmpW at h3 h4
  by_cases e : a.length = b.length
  · rw [if_neg (by omega)] at h3 h4
    have := wlx_anti a b
    omega
  · rw [if_pos (by omega)] at h3 h4
    omega
theorem rk_inj {x y : Int} (hx : isL 8 x) (hy : isL 8 y) (h : rk x - rk y = 0) : x = y := by
  unfold isL at hx hy
  unfold rk at h
  split at h <;> split at h <;> omega
theorem rk_bd {x : Int} (hx : isL 8 x) : -100 ≤ rk x ∧ rk x ≤ 100 := by
  unfold isL at hx
  unfold rk
  split <;> omega
theorem implRank_ok (x : Int) (hx : -100 ≤ x ∧ x ≤ 100) : AC Try.prog 239 [.v (.int .i64 (x))] Hp.emp (fun _ => false) (retV (.v (.int .i64 (rk x)))) := by
  refine ac_of_awp (N := ⟨_, fun _ => false, fun _ _ => rfl⟩) Try.func239 rfl (by kernel_rfl) Try.ntmps239 (by simp) ?_
  simp only [argsFr, List.zipIdx_cons, List.zipIdx_nil, go_sem]
  repeat' (first | refine awp_seqK fun K hK => ?_ | (refine awp_regionK 21 rfl ?_; simp only [List.map_cons, List.map_nil]; simp (maxSteps := 1000000) (dsimp := false) (implicitDefEqProofs := false) (disch := omega) only [wrap64, go_sem]) | (refine awp_regionQK 21 (by kernel_rfl) (by kernel_rfl) (by kernel_rfl) ?_; simp only [List.map_cons, List.map_nil]; simp (maxSteps := 1000000) (dsimp := false) (implicitDefEqProofs := false) (disch := omega) only [wrap64, go_sem]) | refine awp_block ?_ | (refine awp_skip ?_; simp only [go_sem]) | (refine awp_exit ?_; simp only [go_sem]) | (refine awp_ret ?_; try simp only [go_sem]) | (refine awp_condP rfl ?_; try simp only [go_sem]) | (refine BrP.mk (fun h => ?_) (fun h => ?_) <;> try simp (dsimp := false) (disch := omega) only [wrap64]) | (refine Br.mk (fun h => ?_) (fun h => ?_) <;> try simp (dsimp := false) (disch := omega) only [wrap64]) | refine Ob.mk (by first | omega | (intro _ _; rfl) | trivial | (intros; trivial) | assumption | (intro i hi; have h0 : i = 0 := (by omega); subst h0; first | rfl | trivial) | (intro i hi; have h0 : i = 0 ∨ i = 1 := (by omega); rcases h0 with rfl | rfl <;> rfl) | (intro i hi; have h0 : i = 0 ∨ i = 1 ∨ i = 2 := (by omega); rcases h0 with rfl | rfl | rfl <;> rfl)) ?_ | apply_assumption -exfalso -symm)
  all_goals (first | (show endQ _ _ _ _ _ _ _; (repeat (rename (∀ (A : Fr) (H : Hp), AWP _ _ _ _ A H → _) => hK; clear hK)); (repeat (rename (Fr → Hp → Prop) => K; clear K))) | (show Exists _; (repeat (rename (∀ (A : Fr) (H : Hp), AWP _ _ _ _ A H → _) => hK; clear hK)); (repeat (rename (Fr → Hp → Prop) => K; clear K))) | skip)
  · rw [show rk x = -2 * x - 1 from if_pos h]
    exact end_retV' rfl rfl rfl
  · rw [show rk x = 2 * x - 2 from if_neg h]
    exact end_retV' rfl rfl rfl
theorem isL_bd {x : Int} (h : isL 8 x) : -100 ≤ x ∧ x ≤ 100 := by unfold isL at h; omega
theorem cmpClo_ok (x y : Int) (hx : isL 8 x) (hy : isL 8 y) : AC Try.prog 238 [.v (.int .i64 (x)), .v (.int .i64 (y))] Hp.emp (fun _ => false) (retV (.v (.int .i64 (rk x - rk y)))) := by
  have h1 := rk_bd hx
  have h2 := rk_bd hy
  refine ac_of_awp (N := ⟨_, fun _ => false, fun _ _ => rfl⟩) Try.func238 rfl (by kernel_rfl) Try.ntmps238 (by simp) ?_
  simp only [argsFr, List.zipIdx_cons, List.zipIdx_nil, go_sem]
  repeat' (first | refine awp_seqK fun K hK => ?_ | (refine awp_regionK 19 rfl ?_; simp only [List.map_cons, List.map_nil]; simp (maxSteps := 1000000) (dsimp := false) (implicitDefEqProofs := false) (disch := omega) only [wrap64, go_sem]) | (refine awp_regionQK 19 (by kernel_rfl) (by kernel_rfl) (by kernel_rfl) ?_; simp only [List.map_cons, List.map_nil]; simp (maxSteps := 1000000) (dsimp := false) (implicitDefEqProofs := false) (disch := omega) only [wrap64, go_sem]) | refine awp_block ?_ | (refine awp_skip ?_; simp only [go_sem]) | (refine awp_exit ?_; simp only [go_sem]) | (refine awp_ret ?_; try simp only [go_sem]) | (refine awp_condP rfl ?_; try simp only [go_sem]) | (refine BrP.mk (fun h => ?_) (fun h => ?_) <;> try simp (dsimp := false) (disch := omega) only [wrap64]) | (refine Br.mk (fun h => ?_) (fun h => ?_) <;> try simp (dsimp := false) (disch := omega) only [wrap64]) | refine Ob.mk (by first | omega | (intro _ _; rfl) | trivial | (intros; trivial) | assumption | (intro i hi; have h0 : i = 0 := (by omega); subst h0; first | rfl | trivial) | (intro i hi; have h0 : i = 0 ∨ i = 1 := (by omega); rcases h0 with rfl | rfl <;> rfl) | (intro i hi; have h0 : i = 0 ∨ i = 1 ∨ i = 2 := (by omega); rcases h0 with rfl | rfl | rfl <;> rfl)) ?_ | ((first | ((first | refine atF (f := 239) ?_ | refine atQ (f := 239) ?_); (first | (refine cV (hac := implRank_ok x (isL_bd hx)) (hK := ?_)) | (refine cQV (hac := implRank_ok x (isL_bd hx)) (hK := ?_)))) | ((first | refine atF (f := 239) ?_ | refine atQ (f := 239) ?_); (first | (refine cV (hac := implRank_ok y (isL_bd hy)) (hK := ?_)) | (refine cQV (hac := implRank_ok y (isL_bd hy)) (hK := ?_))))); simp (maxSteps := 1000000) (dsimp := false) (implicitDefEqProofs := false) (disch := omega) only [wrap64, go_sem]) | apply_assumption -exfalso -symm)
  all_goals (first | (show endQ _ _ _ _ _ _ _; (repeat (rename (∀ (A : Fr) (H : Hp), AWP _ _ _ _ A H → _) => hK; clear hK)); (repeat (rename (Fr → Hp → Prop) => K; clear K))) | (show Exists _; (repeat (rename (∀ (A : Fr) (H : Hp), AWP _ _ _ _ A H → _) => hK; clear hK)); (repeat (rename (Fr → Hp → Prop) => K; clear K))) | skip)
  exact end_retV' rfl rfl rfl
theorem compareFunc_ok (a b : List Int) (hab : a.length = b.length) (ha : isW 8 a) (hb : isW 8 b) : AC Try.prog 237 [ints a, ints b, fnV 238] Hp.emp (fun _ => false) (retV (.v (.int .i64 (wlx a b)))) := by
  have hl := ha.1
  refine ac_of_awp (N := ⟨_, fun _ => false, fun _ _ => rfl⟩) Try.func237 rfl (by kernel_rfl) Try.ntmps237 (by simp) ?_
  simp only [argsFr, List.zipIdx_cons, List.zipIdx_nil, go_sem]
  repeat' (first | refine awp_seqK fun K hK => ?_ | (refine awp_regionK 277027520455 rfl ?_; simp only [List.map_cons, List.map_nil]; simp (maxSteps := 1000000) (dsimp := false) (implicitDefEqProofs := false) (disch := omega) only [wrap64, go_sem]) | (refine awp_regionQK 277027520455 (by kernel_rfl) (by kernel_rfl) (by kernel_rfl) ?_; simp only [List.map_cons, List.map_nil]; simp (maxSteps := 1000000) (dsimp := false) (implicitDefEqProofs := false) (disch := omega) only [wrap64, go_sem]) | refine awp_block ?_ | (refine awp_skip ?_; simp only [go_sem]) | (refine awp_exit ?_; simp only [go_sem]) | (refine awp_ret ?_; try simp only [go_sem]) | (refine awp_condP rfl ?_; try simp only [go_sem]) | (refine BrP.mk (fun h => ?_) (fun h => ?_) <;> try simp (dsimp := false) (disch := omega) only [wrap64]) | (refine Br.mk (fun h => ?_) (fun h => ?_) <;> try simp (dsimp := false) (disch := omega) only [wrap64]) | refine Ob.mk (by first | omega | (intro _ _; rfl) | trivial | (intros; trivial) | assumption | (intro i hi; have h0 : i = 0 := (by omega); subst h0; first | rfl | trivial) | (intro i hi; have h0 : i = 0 ∨ i = 1 := (by omega); rcases h0 with rfl | rfl <;> rfl) | (intro i hi; have h0 : i = 0 ∨ i = 1 ∨ i = 2 := (by omega); rcases h0 with rfl | rfl | rfl <;> rfl)) ?_ | apply_assumption -exfalso -symm)
  all_goals (first | (show endQ _ _ _ _ _ _ _; (repeat (rename (∀ (A : Fr) (H : Hp), AWP _ _ _ _ A H → _) => hK; clear hK)); (repeat (rename (Fr → Hp → Prop) => K; clear K))) | (show Exists _; (repeat (rename (∀ (A : Fr) (H : Hp), AWP _ _ _ _ A H → _) => hK; clear hK)); (repeat (rename (Fr → Hp → Prop) => K; clear K))) | skip)
  refine awp_loop (ι := Nat) (fun k => [(13, .v (.int .i64 (k))), (12, .v (.int .i64 (a.length))), (11, .list false 1 (a).length (cM iv 0 (a))), (0, .list false 1 (a).length (cM iv 0 (a))), (1, .list false 1 (b).length (cM iv 0 (b))), (2, fnV 238)]) (fun k => Hp.emp) (fun k => k ≤ a.length ∧ ∀ j, j < k → a.getD j 0 = b.getD j 0) (fun k => a.length - k) 0 ?_ (Sub.toL (by simp only [go_sem] <;> first | trivial | (simp only [Option.some.injEq, AV.v.injEq, AV.own.injEq, AV.list.injEq, Value.int.injEq, Value.bool.injEq, true_and, and_true]; first | omega | (simp; done)) | (simp; done) | (simp; omega)) (by (repeat' (first | exact Hp.le_emp _ | exact Hp.le_refl _ | refine Hp.le_upd ?_ ?_)); all_goals (first | rfl | (simp only [go_sem]; first | rfl | (refine cellsE ?_ ?_ <;> (simp)) | (simp))))) ?_
  · exact ⟨Nat.zero_le _, fun j h => absurd h (Nat.not_lt_zero _)⟩
  intro k hk
  have hka := fun h : k < a.length => ha.2 k h
  have hkb := fun h : k < a.length => hb.2 k (hab ▸ h)
  repeat' (first | refine awp_seqK fun K hK => ?_ | (refine awp_regionK 277027520455 rfl ?_; simp only [List.map_cons, List.map_nil]; simp (maxSteps := 1000000) (dsimp := false) (implicitDefEqProofs := false) (disch := omega) only [wrap64, go_sem]) | (refine awp_regionQK 277027520455 (by kernel_rfl) (by kernel_rfl) (by kernel_rfl) ?_; simp only [List.map_cons, List.map_nil]; simp (maxSteps := 1000000) (dsimp := false) (implicitDefEqProofs := false) (disch := omega) only [wrap64, go_sem]) | refine awp_block ?_ | (refine awp_skip ?_; simp only [go_sem]) | (refine awp_exit ?_; simp only [go_sem]) | (refine awp_ret ?_; try simp only [go_sem]) | (refine awp_condP rfl ?_; try simp only [go_sem]) | (refine BrP.mk (fun h => ?_) (fun h => ?_) <;> try simp (dsimp := false) (disch := omega) only [wrap64]) | (refine Br.mk (fun h => ?_) (fun h => ?_) <;> try simp (dsimp := false) (disch := omega) only [wrap64]) | refine Ob.mk (by first | omega | (intro _ _; rfl) | trivial | (intros; trivial) | assumption | (intro i hi; have h0 : i = 0 := (by omega); subst h0; first | rfl | trivial) | (intro i hi; have h0 : i = 0 ∨ i = 1 := (by omega); rcases h0 with rfl | rfl <;> rfl) | (intro i hi; have h0 : i = 0 ∨ i = 1 ∨ i = 2 := (by omega); rcases h0 with rfl | rfl | rfl <;> rfl)) ?_ | ((first | ((first | refine atF (f := 238) ?_ | refine atQ (f := 238) ?_); (first | (refine cV (hac := cmpClo_ok (a.getD k 0) (b.getD k 0) (hka (by omega)) (hkb (by omega))) (hK := ?_)) | (refine cQV (hac := cmpClo_ok (a.getD k 0) (b.getD k 0) (hka (by omega)) (hkb (by omega))) (hK := ?_))))); simp (maxSteps := 1000000) (dsimp := false) (implicitDefEqProofs := false) (disch := omega) only [wrap64, go_sem]) | apply_assumption -exfalso -symm)
  all_goals (first | (show endQ _ _ _ _ _ _ _; (repeat (rename (∀ (A : Fr) (H : Hp), AWP _ _ _ _ A H → _) => hK; clear hK)); (repeat (rename (Fr → Hp → Prop) => K; clear K))) | (show Exists _; (repeat (rename (∀ (A : Fr) (H : Hp), AWP _ _ _ _ A H → _) => hK; clear hK)); (repeat (rename (Fr → Hp → Prop) => K; clear K))) | skip)
  · omega
  · have h1 := rk_inj (hka (by omega)) (hkb (by omega)) (by assumption)
    refine ⟨k + 1, ?_, ?_, Sub.toL (by simp only [go_sem] <;> first | trivial | (simp only [Option.some.injEq, AV.v.injEq, AV.own.injEq, AV.list.injEq, Value.int.injEq, Value.bool.injEq, true_and, and_true]; first | omega | (simp; done)) | (simp; done) | (simp; omega)) (by (repeat' (first | exact Hp.le_emp _ | exact Hp.le_refl _ | refine Hp.le_upd ?_ ?_)); all_goals (first | rfl | (simp only [go_sem]; first | rfl | (refine cellsE ?_ ?_ <;> (simp)) | (simp))))⟩
    · refine ⟨by omega, fun j hj => ?_⟩
      by_cases e : j = k
      · subst e; exact h1
      · exact hk.2 j (by omega)
    · omega
  · refine end_retV' rfl rfl ?_
    rw [wlx_at a b k (by omega) (by omega) hk.2 (fun e => by rename_i h; exact h (by rw [e]; omega))]
  · omega
  · refine end_retV' rfl rfl ?_
    rw [wlx_eq a b hab fun j hj => hk.2 j (by omega)]
theorem implCompareWords_ok (a b : List Int) (ha : isW 8 a) (hb : isW 8 b) : AC Try.prog 141 [ints a, ints b] Hp.emp (fun _ => false) (retV (.v (.int .i64 (cmpW a b)))) := by
  have h1 := ha.1
  have h2 := hb.1
  refine ac_of_awp (N := ⟨_, fun _ => false, fun _ _ => rfl⟩) Try.func141 rfl (by kernel_rfl) Try.ntmps141 (by simp) ?_
  simp only [argsFr, List.zipIdx_cons, List.zipIdx_nil, go_sem]
  repeat' (first | refine awp_seqK fun K hK => ?_ | (refine awp_regionK 531 rfl ?_; simp only [List.map_cons, List.map_nil]; simp (maxSteps := 1000000) (dsimp := false) (implicitDefEqProofs := false) (disch := omega) only [wrap64, go_sem]) | (refine awp_regionQK 531 (by kernel_rfl) (by kernel_rfl) (by kernel_rfl) ?_; simp only [List.map_cons, List.map_nil]; simp (maxSteps := 1000000) (dsimp := false) (implicitDefEqProofs := false) (disch := omega) only [wrap64, go_sem]) | refine awp_block ?_ | (refine awp_skip ?_; simp only [go_sem]) | (refine awp_exit ?_; simp only [go_sem]) | (refine awp_ret ?_; try simp only [go_sem]) | (refine awp_condP rfl ?_; try simp only [go_sem]) | (refine BrP.mk (fun h => ?_) (fun h => ?_) <;> try simp (dsimp := false) (disch := omega) only [wrap64]) | (refine Br.mk (fun h => ?_) (fun h => ?_) <;> try simp (dsimp := false) (disch := omega) only [wrap64]) | refine Ob.mk (by first | omega | (intro _ _; rfl) | trivial | (intros; trivial) | assumption | (intro i hi; have h0 : i = 0 := (by omega); subst h0; first | rfl | trivial) | (intro i hi; have h0 : i = 0 ∨ i = 1 := (by omega); rcases h0 with rfl | rfl <;> rfl) | (intro i hi; have h0 : i = 0 ∨ i = 1 ∨ i = 2 := (by omega); rcases h0 with rfl | rfl | rfl <;> rfl)) ?_ | ((first | ((first | refine atF (f := 237) ?_ | refine atQ (f := 237) ?_); (first | (refine cV (hac := compareFunc_ok a b (by omega) ha hb) (hK := ?_)) | (refine cQV (hac := compareFunc_ok a b (by omega) ha hb) (hK := ?_))))); simp (maxSteps := 1000000) (dsimp := false) (implicitDefEqProofs := false) (disch := omega) only [wrap64, go_sem]) | apply_assumption -exfalso -symm)
  all_goals (first | (show endQ _ _ _ _ _ _ _; (repeat (rename (∀ (A : Fr) (H : Hp), AWP _ _ _ _ A H → _) => hK; clear hK)); (repeat (rename (Fr → Hp → Prop) => K; clear K))) | (show Exists _; (repeat (rename (∀ (A : Fr) (H : Hp), AWP _ _ _ _ A H → _) => hK; clear hK)); (repeat (rename (Fr → Hp → Prop) => K; clear K))) | skip)
  · refine end_retV' rfl rfl ?_
    unfold cmpW
    rw [if_neg (by omega)]
  · refine end_retV' rfl rfl ?_
    unfold cmpW
    rw [if_pos (by omega)]
theorem implWordLess_ok (a b : List Int) : AC Try.prog 38 [ints a, ints b] Hp.emp (fun _ => false) (retV (.v (.bool (decide (lessW a b))))) := by
  refine ac_of_awp (N := ⟨_, fun _ => false, fun _ _ => rfl⟩) Try.func38 rfl (by kernel_rfl) Try.ntmps38 (by simp) ?_
  simp only [argsFr, List.zipIdx_cons, List.zipIdx_nil, go_sem]
  repeat' (first | refine awp_seqK fun K hK => ?_ | (refine awp_regionK 19 rfl ?_; simp only [List.map_cons, List.map_nil]; simp (maxSteps := 1000000) (dsimp := false) (implicitDefEqProofs := false) (disch := omega) only [wrap64, go_sem]) | (refine awp_regionQK 19 (by kernel_rfl) (by kernel_rfl) (by kernel_rfl) ?_; simp only [List.map_cons, List.map_nil]; simp (maxSteps := 1000000) (dsimp := false) (implicitDefEqProofs := false) (disch := omega) only [wrap64, go_sem]) | refine awp_block ?_ | (refine awp_skip ?_; simp only [go_sem]) | (refine awp_exit ?_; simp only [go_sem]) | (refine awp_ret ?_; try simp only [go_sem]) | (refine awp_condP rfl ?_; try simp only [go_sem]) | (refine BrP.mk (fun h => ?_) (fun h => ?_) <;> try simp (dsimp := false) (disch := omega) only [wrap64]) | (refine Br.mk (fun h => ?_) (fun h => ?_) <;> try simp (dsimp := false) (disch := omega) only [wrap64]) | refine Ob.mk (by first | omega | (intro _ _; rfl) | trivial | (intros; trivial) | assumption | (intro i hi; have h0 : i = 0 := (by omega); subst h0; first | rfl | trivial) | (intro i hi; have h0 : i = 0 ∨ i = 1 := (by omega); rcases h0 with rfl | rfl <;> rfl) | (intro i hi; have h0 : i = 0 ∨ i = 1 ∨ i = 2 := (by omega); rcases h0 with rfl | rfl | rfl <;> rfl)) ?_ | ((first | ((first | refine atF (f := 124) ?_ | refine atQ (f := 124) ?_); (first | (refine cV (hac := implIsWord_ok a) (hK := ?_)) | (refine cQV (hac := implIsWord_ok a) (hK := ?_)))) | ((first | refine atF (f := 124) ?_ | refine atQ (f := 124) ?_); (first | (refine cV (hac := implIsWord_ok b) (hK := ?_)) | (refine cQV (hac := implIsWord_ok b) (hK := ?_)))) | ((first | refine atF (f := 141) ?_ | refine atQ (f := 141) ?_); (first | (refine cV (hac := implCompareWords_ok a b (by assumption) (by assumption)) (hK := ?_)) | (refine cQV (hac := implCompareWords_ok a b (by assumption) (by assumption)) (hK := ?_))))); simp (maxSteps := 1000000) (dsimp := false) (implicitDefEqProofs := false) (disch := omega) only [wrap64, go_sem]) | apply_assumption -exfalso -symm)
  all_goals (first | (show endQ _ _ _ _ _ _ _; (repeat (rename (∀ (A : Fr) (H : Hp), AWP _ _ _ _ A H → _) => hK; clear hK)); (repeat (rename (Fr → Hp → Prop) => K; clear K))) | (show Exists _; (repeat (rename (∀ (A : Fr) (H : Hp), AWP _ _ _ _ A H → _) => hK; clear hK)); (repeat (rename (Fr → Hp → Prop) => K; clear K))) | skip)
  all_goals
    refine end_retB rfl rfl ?_
    unfold lessW
    simp_all
theorem specWordLess_ok (a b : List Int) (ha : isW 8 a) (hb : isW 8 b) : AC Try.prog 142 [ints a, ints b] Hp.emp (fun _ => false) (retV (.v (.bool (decide (cmpW a b < 0))))) := by
  have hl := ha.1
  have hl2 := hb.1
  refine ac_of_awp (N := ⟨_, fun _ => false, fun _ _ => rfl⟩) Try.func142 rfl (by kernel_rfl) Try.ntmps142 (by simp) ?_
  simp only [argsFr, List.zipIdx_cons, List.zipIdx_nil, go_sem]
  repeat' (first | refine awp_seqK fun K hK => ?_ | (refine awp_regionK 1074267187 rfl ?_; simp only [List.map_cons, List.map_nil]; simp (maxSteps := 1000000) (dsimp := false) (implicitDefEqProofs := false) (disch := omega) only [wrap64, go_sem]) | (refine awp_regionQK 1074267187 (by kernel_rfl) (by kernel_rfl) (by kernel_rfl) ?_; simp only [List.map_cons, List.map_nil]; simp (maxSteps := 1000000) (dsimp := false) (implicitDefEqProofs := false) (disch := omega) only [wrap64, go_sem]) | refine awp_block ?_ | (refine awp_skip ?_; simp only [go_sem]) | (refine awp_exit ?_; simp only [go_sem]) | (refine awp_ret ?_; try simp only [go_sem]) | (refine awp_condP rfl ?_; try simp only [go_sem]) | (refine BrP.mk (fun h => ?_) (fun h => ?_) <;> try simp (dsimp := false) (disch := omega) only [wrap64]) | (refine Br.mk (fun h => ?_) (fun h => ?_) <;> try simp (dsimp := false) (disch := omega) only [wrap64]) | refine Ob.mk (by first | omega | (intro _ _; rfl) | trivial | (intros; trivial) | assumption | (intro i hi; have h0 : i = 0 := (by omega); subst h0; first | rfl | trivial) | (intro i hi; have h0 : i = 0 ∨ i = 1 := (by omega); rcases h0 with rfl | rfl <;> rfl) | (intro i hi; have h0 : i = 0 ∨ i = 1 ∨ i = 2 := (by omega); rcases h0 with rfl | rfl | rfl <;> rfl)) ?_ | apply_assumption -exfalso -symm)
  all_goals (first | (show endQ _ _ _ _ _ _ _; (repeat (rename (∀ (A : Fr) (H : Hp), AWP _ _ _ _ A H → _) => hK; clear hK)); (repeat (rename (Fr → Hp → Prop) => K; clear K))) | (show Exists _; (repeat (rename (∀ (A : Fr) (H : Hp), AWP _ _ _ _ A H → _) => hK; clear hK)); (repeat (rename (Fr → Hp → Prop) => K; clear K))) | skip)
  · have hab : a.length = b.length := by omega
    refine awp_loop (ι := Nat) (fun k => [(5, .v (.int .i64 (k))), (0, .list false 1 (a).length (cM iv 0 (a))), (1, .list false 1 (b).length (cM iv 0 (b)))]) (fun k => Hp.emp) (fun k => k ≤ a.length ∧ ∀ j, j < k → a.getD j 0 = b.getD j 0) (fun k => a.length - k) 0 ?_ (Sub.toL (by simp only [go_sem] <;> first | trivial | (simp only [Option.some.injEq, AV.v.injEq, AV.own.injEq, AV.list.injEq, Value.int.injEq, Value.bool.injEq, true_and, and_true]; first | omega | (simp; done)) | (simp; done) | (simp; omega)) (by (repeat' (first | exact Hp.le_emp _ | exact Hp.le_refl _ | refine Hp.le_upd ?_ ?_)); all_goals (first | rfl | (simp only [go_sem]; first | rfl | (refine cellsE ?_ ?_ <;> (simp)) | (simp))))) ?_
    · exact ⟨Nat.zero_le _, fun j h => absurd h (Nat.not_lt_zero _)⟩
    intro k hk
    have hka := fun h : k < a.length => ha.2 k h
    have hkb := fun h : k < a.length => hb.2 k (hab ▸ h)
    repeat' (first | refine awp_seqK fun K hK => ?_ | (refine awp_regionK 1074267187 rfl ?_; simp only [List.map_cons, List.map_nil]; simp (maxSteps := 1000000) (dsimp := false) (implicitDefEqProofs := false) (disch := omega) only [wrap64, go_sem]) | (refine awp_regionQK 1074267187 (by kernel_rfl) (by kernel_rfl) (by kernel_rfl) ?_; simp only [List.map_cons, List.map_nil]; simp (maxSteps := 1000000) (dsimp := false) (implicitDefEqProofs := false) (disch := omega) only [wrap64, go_sem]) | refine awp_block ?_ | (refine awp_skip ?_; simp only [go_sem]) | (refine awp_exit ?_; simp only [go_sem]) | (refine awp_ret ?_; try simp only [go_sem]) | (refine awp_condP rfl ?_; try simp only [go_sem]) | (refine BrP.mk (fun h => ?_) (fun h => ?_) <;> try simp (dsimp := false) (disch := omega) only [wrap64]) | (refine Br.mk (fun h => ?_) (fun h => ?_) <;> try simp (dsimp := false) (disch := omega) only [wrap64]) | refine Ob.mk (by first | omega | (intro _ _; rfl) | trivial | (intros; trivial) | assumption | (intro i hi; have h0 : i = 0 := (by omega); subst h0; first | rfl | trivial) | (intro i hi; have h0 : i = 0 ∨ i = 1 := (by omega); rcases h0 with rfl | rfl <;> rfl) | (intro i hi; have h0 : i = 0 ∨ i = 1 ∨ i = 2 := (by omega); rcases h0 with rfl | rfl | rfl <;> rfl)) ?_ | ((first | ((first | refine atF (f := 240) ?_ | refine atQ (f := 240) ?_); (first | (refine cV (hac := letterRank_ok (a.getD k 0) (isL_bd (hka (by omega)))) (hK := ?_)) | (refine cQV (hac := letterRank_ok (a.getD k 0) (isL_bd (hka (by omega)))) (hK := ?_)))) | ((first | refine atF (f := 240) ?_ | refine atQ (f := 240) ?_); (first | (refine cV (hac := letterRank_ok (b.getD k 0) (isL_bd (hkb (by omega)))) (hK := ?_)) | (refine cQV (hac := letterRank_ok (b.getD k 0) (isL_bd (hkb (by omega)))) (hK := ?_))))); simp (maxSteps := 1000000) (dsimp := false) (implicitDefEqProofs := false) (disch := omega) only [wrap64, go_sem]) | apply_assumption -exfalso -symm)
    all_goals (first | (show endQ _ _ _ _ _ _ _; (repeat (rename (∀ (A : Fr) (H : Hp), AWP _ _ _ _ A H → _) => hK; clear hK)); (repeat (rename (Fr → Hp → Prop) => K; clear K))) | (show Exists _; (repeat (rename (∀ (A : Fr) (H : Hp), AWP _ _ _ _ A H → _) => hK; clear hK)); (repeat (rename (Fr → Hp → Prop) => K; clear K))) | skip)
    · refine ⟨k + 1, ?_, ?_, Sub.toL (by simp only [go_sem] <;> first | trivial | (simp only [Option.some.injEq, AV.v.injEq, AV.own.injEq, AV.list.injEq, Value.int.injEq, Value.bool.injEq, true_and, and_true]; first | omega | (simp; done)) | (simp; done) | (simp; omega)) (by (repeat' (first | exact Hp.le_emp _ | exact Hp.le_refl _ | refine Hp.le_upd ?_ ?_)); all_goals (first | rfl | (simp only [go_sem]; first | rfl | (refine cellsE ?_ ?_ <;> (simp)) | (simp))))⟩
      · refine ⟨by omega, fun j hj => ?_⟩
        by_cases e : j = k
        · subst e; assumption
        · exact hk.2 j (by omega)
      · omega
    · refine end_retB rfl rfl ?_
      unfold cmpW
      rw [if_neg (by omega), wlx_at a b k (by omega) (by omega) hk.2 (by assumption), decide_eq_true_eq]
      omega
    · refine end_retB rfl rfl ?_
      unfold cmpW
      rw [if_neg (by omega), wlx_eq a b hab fun j hj => hk.2 j (by omega)]
      simp
  · refine end_retB rfl rfl ?_
    unfold cmpW
    rw [if_pos (by omega), decide_eq_true_eq]
    omega
theorem specWordLessX_ok (a b : List Int) : AC Try.prog 39 [ints a, ints b] Hp.emp (fun _ => false) (retV (.v (.bool (decide (lessW a b))))) := by
  refine ac_of_awp (N := ⟨_, fun _ => false, fun _ _ => rfl⟩) Try.func39 rfl (by kernel_rfl) Try.ntmps39 (by simp) ?_
  simp only [argsFr, List.zipIdx_cons, List.zipIdx_nil, go_sem]
  repeat' (first | refine awp_seqK fun K hK => ?_ | (refine awp_regionK 19 rfl ?_; simp only [List.map_cons, List.map_nil]; simp (maxSteps := 1000000) (dsimp := false) (implicitDefEqProofs := false) (disch := omega) only [wrap64, go_sem]) | (refine awp_regionQK 19 (by kernel_rfl) (by kernel_rfl) (by kernel_rfl) ?_; simp only [List.map_cons, List.map_nil]; simp (maxSteps := 1000000) (dsimp := false) (implicitDefEqProofs := false) (disch := omega) only [wrap64, go_sem]) | refine awp_block ?_ | (refine awp_skip ?_; simp only [go_sem]) | (refine awp_exit ?_; simp only [go_sem]) | (refine awp_ret ?_; try simp only [go_sem]) | (refine awp_condP rfl ?_; try simp only [go_sem]) | (refine BrP.mk (fun h => ?_) (fun h => ?_) <;> try simp (dsimp := false) (disch := omega) only [wrap64]) | (refine Br.mk (fun h => ?_) (fun h => ?_) <;> try simp (dsimp := false) (disch := omega) only [wrap64]) | refine Ob.mk (by first | omega | (intro _ _; rfl) | trivial | (intros; trivial) | assumption | (intro i hi; have h0 : i = 0 := (by omega); subst h0; first | rfl | trivial) | (intro i hi; have h0 : i = 0 ∨ i = 1 := (by omega); rcases h0 with rfl | rfl <;> rfl) | (intro i hi; have h0 : i = 0 ∨ i = 1 ∨ i = 2 := (by omega); rcases h0 with rfl | rfl | rfl <;> rfl)) ?_ | ((first | ((first | refine atF (f := 126) ?_ | refine atQ (f := 126) ?_); (first | (refine cV (hac := isWord_ok a) (hK := ?_)) | (refine cQV (hac := isWord_ok a) (hK := ?_)))) | ((first | refine atF (f := 126) ?_ | refine atQ (f := 126) ?_); (first | (refine cV (hac := isWord_ok b) (hK := ?_)) | (refine cQV (hac := isWord_ok b) (hK := ?_)))) | ((first | refine atF (f := 142) ?_ | refine atQ (f := 142) ?_); (first | (refine cV (hac := specWordLess_ok a b (by assumption) (by assumption)) (hK := ?_)) | (refine cQV (hac := specWordLess_ok a b (by assumption) (by assumption)) (hK := ?_))))); simp (maxSteps := 1000000) (dsimp := false) (implicitDefEqProofs := false) (disch := omega) only [wrap64, go_sem]) | apply_assumption -exfalso -symm)
  all_goals (first | (show endQ _ _ _ _ _ _ _; (repeat (rename (∀ (A : Fr) (H : Hp), AWP _ _ _ _ A H → _) => hK; clear hK)); (repeat (rename (Fr → Hp → Prop) => K; clear K))) | (show Exists _; (repeat (rename (∀ (A : Fr) (H : Hp), AWP _ _ _ _ A H → _) => hK; clear hK)); (repeat (rename (Fr → Hp → Prop) => K; clear K))) | skip)
  all_goals
    refine end_retB rfl rfl ?_
    unfold lessW
    simp_all
end Go.Proofs.Ytcfnbahpdlmcpaa
end
