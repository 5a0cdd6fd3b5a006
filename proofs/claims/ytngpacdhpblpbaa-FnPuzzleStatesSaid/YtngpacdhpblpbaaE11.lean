import Derived.Test.YtngpacdhpblpbaaE4
import Derived.Test.YtngpacdhpblpbaaE3
import Derived.Test.YtngpacdhpblpbaaE10
import Derived.Test.YtngpacdhpblpbaaE5
/- The laws' dice: how they lie in memory, and what a throw answers. -/
section
namespace Go.Proofs.Ytngpacdhpblpbaa
open Go.Av
set_option linter.unusedSimpArgs false
set_option linter.unusedVariables false
attribute [local irreducible] AWP CallG Ob Br BrP Go.Av.Sub endQ AOps OpV AC thenA blkA opsVC opVC withA withArgs opsQ opQ CallQ withA2 withArgs2
theorem tmod_in {x n : Int} (hx : 0 ≤ x) (hn : 0 < n) : 0 ≤ x.tmod n ∧ x.tmod n < n := ⟨Int.tmod_nonneg n hx, Int.tmod_lt_of_pos x hn⟩
theorem c3 {f g : Nat → AV} (h0 : f 0 = g 0) (h1 : f 1 = g 1) (h2 : f 2 = g 2) : ∀ i, i < 3 → f i = g i := fun i hi => by
  match i, hi with
  | 0, _ => exact h0
  | 1, _ => exact h1
  | 2, _ => exact h2
end Go.Proofs.Ytngpacdhpblpbaa
end
/- The laws' dice: how they are made; words of dice; whether codes are big, rows alike. -/
section
namespace Go.Proofs.Ytngpacdhpblpbaa
open Go.Av
set_option linter.unusedSimpArgs false
set_option linter.unusedVariables false
attribute [local irreducible] AWP CallG Ob Br BrP Go.Av.Sub endQ AOps OpV AC thenA blkA opsVC opVC withA withArgs opsQ opQ CallQ withA2 withArgs2
open Go.Pm (Pm comp invp idn img)
theorem big_ok (xs : List Int) : AC Try.prog 9 [bts xs] Hp.emp (fun _ => false) (retV (.v (.bool (decide (4096 < xs.length))))) := by
  refine ac_of_awp (N := ⟨_, fun _ => false, fun _ _ => rfl⟩) Try.func9 rfl (by kernel_rfl) Try.ntmps9 (by simp) ?_
  simp only [argsFr, List.zipIdx_cons, List.zipIdx_nil, go_sem]
  unfold bts
  repeat' (first | refine awp_seqK fun K hK => ?_ | (refine awp_regionK 5 rfl ?_; simp only [List.map_cons, List.map_nil]; simp (maxSteps := 1000000) (dsimp := false) (implicitDefEqProofs := false) (disch := omega) only [wrap64, go_sem]) | (refine awp_regionQK 5 (by kernel_rfl) (by kernel_rfl) (by kernel_rfl) ?_; simp only [List.map_cons, List.map_nil]; simp (maxSteps := 1000000) (dsimp := false) (implicitDefEqProofs := false) (disch := omega) only [wrap64, go_sem]) | refine awp_block ?_ | (refine awp_skip ?_; simp only [go_sem]) | (refine awp_exit ?_; simp only [go_sem]) | (refine awp_ret ?_; try simp only [go_sem]) | (refine awp_condP rfl ?_; try simp only [go_sem]) | (refine BrP.mk (fun h => ?_) (fun h => ?_) <;> try simp (dsimp := false) (disch := omega) only [wrap64]) | (refine Br.mk (fun h => ?_) (fun h => ?_) <;> try simp (dsimp := false) (disch := omega) only [wrap64]) | refine Ob.mk (by first | omega | (intro _ _; rfl) | trivial | (intros; trivial) | assumption | (intro i hi; have h0 : i = 0 := (by omega); subst h0; first | rfl | trivial) | (intro i hi; have h0 : i = 0 ∨ i = 1 := (by omega); rcases h0 with rfl | rfl <;> rfl) | (intro i hi; have h0 : i = 0 ∨ i = 1 ∨ i = 2 := (by omega); rcases h0 with rfl | rfl | rfl <;> rfl)) ?_ | apply_assumption -exfalso -symm)
  all_goals (first | (show endQ _ _ _ _ _ _ _; (repeat (rename (∀ (A : Fr) (H : Hp), AWP _ _ _ _ A H → _) => hK; clear hK)); (repeat (rename (Fr → Hp → Prop) => K; clear K))) | (show Exists _; (repeat (rename (∀ (A : Fr) (H : Hp), AWP _ _ _ _ A H → _) => hK; clear hK)); (repeat (rename (Fr → Hp → Prop) => K; clear K))) | skip)
  exact end_retB rfl rfl (by simp; omega)
theorem likeInts_ok (xs ys : List Int) (hlen : xs.length ≤ 9223372036854775807) : AC Try.prog 13 [ints xs, ints ys] Hp.emp (fun _ => false) (retV (.v (.bool (decide (xs = ys))))) := by
  refine ac_of_awp (N := ⟨_, fun _ => false, fun _ _ => rfl⟩) Try.func13 rfl (by kernel_rfl) Try.ntmps13 (by simp) ?_
  simp only [argsFr, List.zipIdx_cons, List.zipIdx_nil, go_sem]
  repeat' (first | refine awp_seqK fun K hK => ?_ | (refine awp_regionK 33571891 rfl ?_; simp only [List.map_cons, List.map_nil]; simp (maxSteps := 1000000) (dsimp := false) (implicitDefEqProofs := false) (disch := omega) only [wrap64, go_sem]) | (refine awp_regionQK 33571891 (by kernel_rfl) (by kernel_rfl) (by kernel_rfl) ?_; simp only [List.map_cons, List.map_nil]; simp (maxSteps := 1000000) (dsimp := false) (implicitDefEqProofs := false) (disch := omega) only [wrap64, go_sem]) | refine awp_block ?_ | (refine awp_skip ?_; simp only [go_sem]) | (refine awp_exit ?_; simp only [go_sem]) | (refine awp_ret ?_; try simp only [go_sem]) | (refine awp_condP rfl ?_; try simp only [go_sem]) | (refine BrP.mk (fun h => ?_) (fun h => ?_) <;> try simp (dsimp := false) (disch := omega) only [wrap64]) | (refine Br.mk (fun h => ?_) (fun h => ?_) <;> try simp (dsimp := false) (disch := omega) only [wrap64]) | refine Ob.mk (by first | omega | (intro _ _; rfl) | trivial | (intros; trivial) | assumption | (intro i hi; have h0 : i = 0 := (by omega); subst h0; first | rfl | trivial) | (intro i hi; have h0 : i = 0 ∨ i = 1 := (by omega); rcases h0 with rfl | rfl <;> rfl) | (intro i hi; have h0 : i = 0 ∨ i = 1 ∨ i = 2 := (by omega); rcases h0 with rfl | rfl | rfl <;> rfl)) ?_ | apply_assumption -exfalso -symm)
  all_goals (first | (show endQ _ _ _ _ _ _ _; (repeat (rename (∀ (A : Fr) (H : Hp), AWP _ _ _ _ A H → _) => hK; clear hK)); (repeat (rename (Fr → Hp → Prop) => K; clear K))) | (show Exists _; (repeat (rename (∀ (A : Fr) (H : Hp), AWP _ _ _ _ A H → _) => hK; clear hK)); (repeat (rename (Fr → Hp → Prop) => K; clear K))) | skip)
  · have hl : xs.length = ys.length := by omega
    refine awp_loop (ι := Nat) (fun k => [(5, .v (.int .i64 (k))), (0, .list false 1 (xs).length (cM iv 0 (xs))), (1, .list false 1 (ys).length (cM iv 0 (ys)))]) (fun k => Hp.emp) (fun k => k ≤ xs.length ∧ ∀ j, j < k → xs.getD j 0 = ys.getD j 0) (fun k => xs.length - k) 0 ?_ (Sub.toL (by simp only [go_sem] <;> first | trivial | (simp only [Option.some.injEq, AV.v.injEq, AV.own.injEq, AV.list.injEq, Value.int.injEq, Value.bool.injEq, true_and, and_true]; first | omega | (simp; done)) | (simp; done) | (simp; omega)) (by (repeat' (first | exact Hp.le_emp _ | exact Hp.le_refl _ | refine Hp.le_upd ?_ ?_)); all_goals (first | rfl | (simp only [go_sem]; first | rfl | (refine cellsE ?_ ?_ <;> (simp)) | (simp))))) ?_
    · exact ⟨Nat.zero_le _, fun j h => absurd h (Nat.not_lt_zero _)⟩
    intro k hk
    repeat' (first | refine awp_seqK fun K hK => ?_ | (refine awp_regionK 33571891 rfl ?_; simp only [List.map_cons, List.map_nil]; simp (maxSteps := 1000000) (dsimp := false) (implicitDefEqProofs := false) (disch := omega) only [wrap64, go_sem]) | (refine awp_regionQK 33571891 (by kernel_rfl) (by kernel_rfl) (by kernel_rfl) ?_; simp only [List.map_cons, List.map_nil]; simp (maxSteps := 1000000) (dsimp := false) (implicitDefEqProofs := false) (disch := omega) only [wrap64, go_sem]) | refine awp_block ?_ | (refine awp_skip ?_; simp only [go_sem]) | (refine awp_exit ?_; simp only [go_sem]) | (refine awp_ret ?_; try simp only [go_sem]) | (refine awp_condP rfl ?_; try simp only [go_sem]) | (refine BrP.mk (fun h => ?_) (fun h => ?_) <;> try simp (dsimp := false) (disch := omega) only [wrap64]) | (refine Br.mk (fun h => ?_) (fun h => ?_) <;> try simp (dsimp := false) (disch := omega) only [wrap64]) | refine Ob.mk (by first | omega | (intro _ _; rfl) | trivial | (intros; trivial) | assumption | (intro i hi; have h0 : i = 0 := (by omega); subst h0; first | rfl | trivial) | (intro i hi; have h0 : i = 0 ∨ i = 1 := (by omega); rcases h0 with rfl | rfl <;> rfl) | (intro i hi; have h0 : i = 0 ∨ i = 1 ∨ i = 2 := (by omega); rcases h0 with rfl | rfl | rfl <;> rfl)) ?_ | apply_assumption -exfalso -symm)
    all_goals (first | (show endQ _ _ _ _ _ _ _; (repeat (rename (∀ (A : Fr) (H : Hp), AWP _ _ _ _ A H → _) => hK; clear hK)); (repeat (rename (Fr → Hp → Prop) => K; clear K))) | (show Exists _; (repeat (rename (∀ (A : Fr) (H : Hp), AWP _ _ _ _ A H → _) => hK; clear hK)); (repeat (rename (Fr → Hp → Prop) => K; clear K))) | skip)
    · refine ⟨k + 1, ?_, ?_, Sub.toL (by simp only [go_sem] <;> first | trivial | (simp only [Option.some.injEq, AV.v.injEq, AV.own.injEq, AV.list.injEq, Value.int.injEq, Value.bool.injEq, true_and, and_true]; first | omega | (simp; done)) | (simp; done) | (simp; omega)) (by (repeat' (first | exact Hp.le_emp _ | exact Hp.le_refl _ | refine Hp.le_upd ?_ ?_)); all_goals (first | rfl | (simp only [go_sem]; first | rfl | (refine cellsE ?_ ?_ <;> (simp)) | (simp))))⟩
      · refine ⟨by omega, fun j hj => ?_⟩
        by_cases e : j = k
        · subst e; assumption
        · exact hk.2 j (by omega)
      · omega
    · refine end_retB rfl rfl ?_
      simp only [Bool.false_eq_true, false_iff]
      rintro rfl
      exact absurd rfl ‹¬_›
    · refine end_retB rfl rfl ?_
      simp only [true_iff]
      exact eq_of_getD hl fun j hj => hk.2 j (by omega)
  · refine end_retB rfl rfl ?_
    simp only [Bool.false_eq_true, false_iff]
    rintro rfl
    omega
theorem specIdent_ok (n : Nat) (h1 : 1 ≤ n ∧ n ≤ 20) (d : Nat) : AC Try.prog 20 [.v (.int .i64 (n))] Hp.emp (fun _ => false) (retI d (idn n)) := by
  have hid : AC Try.prog 81 [.v (.int .i64 (n))] Hp.emp (fun _ => false) (retI 10 (idn n)) := by rw [idn_marks]; exact specIdentity_ok n (by omega) 10
  refine ac_of_awp (N := ⟨_, fun _ => false, fun _ _ => rfl⟩) Try.func20 rfl (by kernel_rfl) Try.ntmps20 (by simp) ?_
  simp only [argsFr, List.zipIdx_cons, List.zipIdx_nil, go_sem]
  repeat' (first | refine awp_seqK fun K hK => ?_ | (refine awp_regionK 37 rfl ?_; simp only [List.map_cons, List.map_nil]; simp (maxSteps := 1000000) (dsimp := false) (implicitDefEqProofs := false) (disch := omega) only [wrap64, go_sem]) | (refine awp_regionQK 37 (by kernel_rfl) (by kernel_rfl) (by kernel_rfl) ?_; simp only [List.map_cons, List.map_nil]; simp (maxSteps := 1000000) (dsimp := false) (implicitDefEqProofs := false) (disch := omega) only [wrap64, go_sem]) | refine awp_block ?_ | (refine awp_skip ?_; simp only [go_sem]) | (refine awp_exit ?_; simp only [go_sem]) | (refine awp_ret ?_; try simp only [go_sem]) | (refine awp_condP rfl ?_; try simp only [go_sem]) | (refine BrP.mk (fun h => ?_) (fun h => ?_) <;> try simp (dsimp := false) (disch := omega) only [wrap64]) | (refine Br.mk (fun h => ?_) (fun h => ?_) <;> try simp (dsimp := false) (disch := omega) only [wrap64]) | refine Ob.mk (by first | omega | (intro _ _; rfl) | trivial | (intros; trivial) | assumption | (intro i hi; have h0 : i = 0 := (by omega); subst h0; first | rfl | trivial) | (intro i hi; have h0 : i = 0 ∨ i = 1 := (by omega); rcases h0 with rfl | rfl <;> rfl) | (intro i hi; have h0 : i = 0 ∨ i = 1 ∨ i = 2 := (by omega); rcases h0 with rfl | rfl | rfl <;> rfl)) ?_ | ((first | ((first | refine atF (f := 80) ?_ | refine atQ (f := 80) ?_); (first | (refine cV (hac := inRange_ok _ _ _) (hK := ?_)) | (refine cQV (hac := inRange_ok _ _ _) (hK := ?_)))) | (refine cI (hac := hid) (hK := ?_)) | (refine cQI (hac := hid) (hK := ?_)) | ((first | refine atF (f := 81) ?_ | refine atQ (f := 81) ?_); refine cI (hac := hid) (hK := ?_))); simp (maxSteps := 1000000) (dsimp := false) (implicitDefEqProofs := false) (disch := omega) only [wrap64, go_sem]) | apply_assumption -exfalso -symm)
  all_goals (first | (show endQ _ _ _ _ _ _ _; (repeat (rename (∀ (A : Fr) (H : Hp), AWP _ _ _ _ A H → _) => hK; clear hK)); (repeat (rename (Fr → Hp → Prop) => K; clear K))) | (show Exists _; (repeat (rename (∀ (A : Fr) (H : Hp), AWP _ _ _ _ A H → _) => hK; clear hK)); (repeat (rename (Fr → Hp → Prop) => K; clear K))) | skip)
  · (first | refine end_retI' rfl rfl rfl ?_ rfl rfl | refine end_retI_nil' rfl rfl ?_ rfl)
    rfl
  · omega
end Go.Proofs.Ytngpacdhpblpbaa
end
/- Which of two words is less. -/
section
namespace Go.Proofs.Ytngpacdhpblpbaa
open Go.Av
set_option linter.unusedSimpArgs false
set_option linter.unusedVariables false
attribute [local irreducible] AWP CallG Ob Br BrP Go.Av.Sub endQ AOps OpV AC thenA blkA opsVC opVC withA withArgs opsQ opQ CallQ withA2 withArgs2
def rk (x : Int) : Int := if x < 0 then -2 * x - 1 else 2 * x - 2
end Go.Proofs.Ytngpacdhpblpbaa
end
/- The reference's sources of choices: how they lie in memory, and what they answer. -/
section
namespace Go.Proofs.Ytngpacdhpblpbaa
open Go.Av
set_option linter.unusedSimpArgs false
set_option linter.unusedVariables false
attribute [local irreducible] AWP CallG Ob Br BrP Go.Av.Sub endQ AOps OpV AC thenA blkA opsVC opVC withA withArgs opsQ opQ CallQ withA2 withArgs2
/-- A number of the machine. -/
def r64 (x : Int) : Prop := -9223372036854775808 ≤ x ∧ x ≤ 9223372036854775807
/-- The bits that a mask keeps. -/
def andI (m c : Int) : Int := IntKind.i64.wrap ((BitVec.ofInt IntKind.i64.bits m &&& BitVec.ofInt IntKind.i64.bits c).toNat : Int)
theorem andI_ok (m c : Int) (hc : 0 ≤ c ∧ c ≤ 4294967295) : 0 ≤ andI m c ∧ andI m c ≤ c := by
  have e : (BitVec.ofInt IntKind.i64.bits c).toNat = c.toNat := by
    rw [BitVec.toNat_ofInt]
    show (c % (2 ^ 64 : Nat)).toNat = c.toNat
    have : c % ((2 ^ 64 : Nat) : Int) = c := Int.emod_eq_of_lt hc.1 (by show c < 18446744073709551616; omega)
    rw [this]
  have h : (BitVec.ofInt IntKind.i64.bits m &&& BitVec.ofInt IntKind.i64.bits c).toNat ≤ c.toNat := by
    rw [BitVec.toNat_and, e]
    exact Nat.and_le_right
  unfold andI
  rw [wrap64 (by omega)]
  omega
theorem nextByte_ok (d : Dc) : AC Try.prog 170 [.ref 1000000 0] (DH .i64 d) pM (postD .i64 fun r => ∃ v : Int, (0 ≤ v ∧ v ≤ 255) ∧ r = .v (.int .i64 (v))) := by
  have hb := d.hx d.i
  have e1 : IntKind.i64.wrap (d.xs.getD d.i 0) = d.xs.getD d.i 0 := wrap64 (by omega)
  refine ac_of_awp (N := ⟨_, pM, fun h hh => pM_low (Nat.lt_of_lt_of_le hh (by decide))⟩) Try.func170 rfl (by kernel_rfl) Try.ntmps170 (by simp) ?_
  simp only [argsFr, List.zipIdx_cons, List.zipIdx_nil, go_sem]
  unfold DH dF
  repeat' (first | refine awp_seqK fun K hK => ?_ | (refine awp_regionK 17179869197 rfl ?_; simp only [List.map_cons, List.map_nil]; simp (maxSteps := 1000000) (dsimp := false) (implicitDefEqProofs := false) (disch := omega) only [wrap64, go_sem, e1]) | (refine awp_regionQK 17179869197 (by kernel_rfl) (by kernel_rfl) (by kernel_rfl) ?_; simp only [List.map_cons, List.map_nil]; simp (maxSteps := 1000000) (dsimp := false) (implicitDefEqProofs := false) (disch := omega) only [wrap64, go_sem, e1]) | refine awp_block ?_ | (refine awp_skip ?_; simp only [go_sem, e1]) | (refine awp_exit ?_; simp only [go_sem, e1]) | (refine awp_ret ?_; try simp only [go_sem, e1]) | (refine awp_condP rfl ?_; try simp only [go_sem, e1]) | (refine BrP.mk (fun h => ?_) (fun h => ?_) <;> try simp (dsimp := false) (disch := omega) only [wrap64]) | (refine Br.mk (fun h => ?_) (fun h => ?_) <;> try simp (dsimp := false) (disch := omega) only [wrap64]) | refine Ob.mk (by first | omega | (intro _ _; rfl) | trivial | (intros; trivial) | assumption | (intro i hi; have h0 : i = 0 := (by omega); subst h0; first | rfl | trivial) | (intro i hi; have h0 : i = 0 ∨ i = 1 := (by omega); rcases h0 with rfl | rfl <;> rfl) | (intro i hi; have h0 : i = 0 ∨ i = 1 ∨ i = 2 := (by omega); rcases h0 with rfl | rfl | rfl <;> rfl)) ?_ | apply_assumption -exfalso -symm)
  all_goals (first | (show endQ _ _ _ _ _ _ _; (repeat (rename (∀ (A : Fr) (H : Hp), AWP _ _ _ _ A H → _) => hK; clear hK)); (repeat (rename (Fr → Hp → Prop) => K; clear K))) | (show Exists _; (repeat (rename (∀ (A : Fr) (H : Hp), AWP _ _ _ _ A H → _) => hK; clear hK)); (repeat (rename (Fr → Hp → Prop) => K; clear K))) | skip)
  · have hl := d.hl
    rw [wrap64 (x := (d.i : Int) + 1) (by omega)]
    refine end_postS (H' := DH .i64 ⟨d.xs, d.i + 1, IntKind.i64.wrap (IntKind.i64.wrap (d.h * 6364136223846793005) + 1442695040888963407), by omega, d.hx, d.hl⟩) rfl (Sub.toLF (by simp only [go_sem] <;> first | trivial | (simp only [Option.some.injEq, AV.v.injEq, AV.own.injEq, AV.list.injEq, Value.int.injEq, Value.bool.injEq, true_and, and_true]; first | omega | (simp; done)) | (simp; done) | (simp; omega)) (leF_upd rfl (bfE rfl (c3 rfl rfl rfl)) leF_emp id)) ⟨_, ⟨_, andI_ok _ 255 (by omega), rfl⟩, rfl⟩
  · refine end_postS (H' := DH .i64 ⟨d.xs, d.i, IntKind.i64.wrap (IntKind.i64.wrap (d.h * 6364136223846793005) + 1442695040888963407), d.hi, d.hx, d.hl⟩) rfl (Sub.toLF (by simp only [go_sem] <;> first | trivial | (simp only [Option.some.injEq, AV.v.injEq, AV.own.injEq, AV.list.injEq, Value.int.injEq, Value.bool.injEq, true_and, and_true]; first | omega | (simp; done)) | (simp; done) | (simp; omega)) (leF_upd rfl (bfE rfl (c3 rfl rfl rfl)) leF_emp id)) ⟨_, ⟨_, andI_ok _ 255 (by omega), rfl⟩, rfl⟩
/-- What `below` answers. -/
def belowQ (n v : Int) : Prop := (n ≤ 0 → v = 0) ∧ (0 < n → 0 ≤ v ∧ v < n)
theorem sBelow_ok (d : Dc) (n : Int) (hn : r64 n) : AC Try.prog 129 [.ref 1000000 0, .v (.int .i64 (n))] (DH .i64 d) pM (postD .i64 fun r => ∃ v : Int, belowQ n v ∧ r = .v (.int .i64 (v))) := by
  unfold r64 at hn
  refine ac_of_awp (N := ⟨_, pM, fun h hh => pM_low (Nat.lt_of_lt_of_le hh (by decide))⟩) Try.func129 rfl (by kernel_rfl) Try.ntmps129 (by simp) ?_
  simp only [argsFr, List.zipIdx_cons, List.zipIdx_nil, go_sem]
  unfold DH
  repeat' (first | ((first | refine atF (f := 170) ?_ | refine atQ (f := 170) ?_); (refine callD (by rfl) (nextByte_ok _) (by rintro _ ⟨v, _, rfl⟩ _; rfl) (fun r d' hq => ?_); obtain ⟨v, hv, rfl⟩ := hq) <;> simp (maxSteps := 1000000) (dsimp := false) (implicitDefEqProofs := false) (disch := omega) only [wrap64, go_sem]) | refine awp_seqK fun K hK => ?_ | (refine awp_regionK 5619 rfl ?_; simp only [List.map_cons, List.map_nil]; simp (maxSteps := 1000000) (dsimp := false) (implicitDefEqProofs := false) (disch := omega) only [wrap64, go_sem]) | (refine awp_regionQK 5619 (by kernel_rfl) (by kernel_rfl) (by kernel_rfl) ?_; simp only [List.map_cons, List.map_nil]; simp (maxSteps := 1000000) (dsimp := false) (implicitDefEqProofs := false) (disch := omega) only [wrap64, go_sem]) | refine awp_block ?_ | (refine awp_skip ?_; simp only [go_sem]) | (refine awp_exit ?_; simp only [go_sem]) | (refine awp_ret ?_; try simp only [go_sem]) | (refine awp_condP rfl ?_; try simp only [go_sem]) | (refine BrP.mk (fun h => ?_) (fun h => ?_) <;> try simp (dsimp := false) (disch := omega) only [wrap64]) | (refine Br.mk (fun h => ?_) (fun h => ?_) <;> try simp (dsimp := false) (disch := omega) only [wrap64]) | refine Ob.mk (by first | omega | (intro _ _; rfl) | trivial | (intros; trivial) | assumption | (intro i hi; have h0 : i = 0 := (by omega); subst h0; first | rfl | trivial) | (intro i hi; have h0 : i = 0 ∨ i = 1 := (by omega); rcases h0 with rfl | rfl <;> rfl) | (intro i hi; have h0 : i = 0 ∨ i = 1 ∨ i = 2 := (by omega); rcases h0 with rfl | rfl | rfl <;> rfl)) ?_ | apply_assumption -exfalso -symm)
  all_goals (first | (show endQ _ _ _ _ _ _ _; (repeat (rename (∀ (A : Fr) (H : Hp), AWP _ _ _ _ A H → _) => hK; clear hK)); (repeat (rename (Fr → Hp → Prop) => K; clear K))) | (show Exists _; (repeat (rename (∀ (A : Fr) (H : Hp), AWP _ _ _ _ A H → _) => hK; clear hK)); (repeat (rename (Fr → Hp → Prop) => K; clear K))) | skip)
  · exact end_post rfl rfl (Hp.le_refl _) ⟨d, ⟨0, ⟨fun _ => rfl, fun h => by omega⟩, rfl⟩, rfl⟩
  · exact end_post rfl rfl (Hp.le_refl _) ⟨_, ⟨_, ⟨fun h => by omega, fun h => tmod_in (by omega) h⟩, rfl⟩, rfl⟩
  · exact end_post rfl rfl (Hp.le_refl _) ⟨_, ⟨_, ⟨fun h => by omega, fun h => tmod_in (by omega) h⟩, rfl⟩, rfl⟩
theorem postD_mono {k : IntKind} {Q Q' : AV → Prop} (h : ∀ r, Q r → Q' r) (r : AV) (H : Hp) (hp : postD k Q r H) : postD k Q' r H := let ⟨d, a, b⟩ := hp; ⟨d, h r a, b⟩
theorem sBelowP_ok (d : Dc) (n : Int) (hn : 0 < n ∧ n ≤ 9223372036854775807) : AC Try.prog 129 [.ref 1000000 0, .v (.int .i64 (n))] (DH .i64 d) pM (postD .i64 fun r => ∃ v : Int, (0 ≤ v ∧ v < n) ∧ r = .v (.int .i64 (v))) :=
  (sBelow_ok d n (by unfold r64; omega)).mono (postD_mono fun r ⟨v, a, b⟩ => ⟨v, a.2 hn.1, b⟩)
theorem oneIn_ok (d : Dc) (n : Int) (hn : 0 < n ∧ n ≤ 9223372036854775807) : AC Try.prog 60 [.ref 1000000 0, .v (.int .i64 (n))] (DH .i64 d) pM (postD .i64 fun r => ∃ v : Bool, True ∧ r = .v (.bool (v))) := by
  refine ac_of_awp (N := ⟨_, pM, fun h hh => pM_low (Nat.lt_of_lt_of_le hh (by decide))⟩) Try.func60 rfl (by kernel_rfl) Try.ntmps60 (by simp) ?_
  simp only [argsFr, List.zipIdx_cons, List.zipIdx_nil, go_sem]
  unfold DH
  repeat' (first | ((first | refine atF (f := 129) ?_ | refine atQ (f := 129) ?_); (refine callD (by rfl) (sBelowP_ok _ _ (by omega)) (by rintro _ ⟨v, _, rfl⟩ _; rfl) (fun r d' hq => ?_); obtain ⟨v, hv, rfl⟩ := hq) <;> simp (maxSteps := 1000000) (dsimp := false) (implicitDefEqProofs := false) (disch := omega) only [wrap64, go_sem]) | refine awp_seqK fun K hK => ?_ | (refine awp_regionK 19 rfl ?_; simp only [List.map_cons, List.map_nil]; simp (maxSteps := 1000000) (dsimp := false) (implicitDefEqProofs := false) (disch := omega) only [wrap64, go_sem]) | (refine awp_regionQK 19 (by kernel_rfl) (by kernel_rfl) (by kernel_rfl) ?_; simp only [List.map_cons, List.map_nil]; simp (maxSteps := 1000000) (dsimp := false) (implicitDefEqProofs := false) (disch := omega) only [wrap64, go_sem]) | refine awp_block ?_ | (refine awp_skip ?_; simp only [go_sem]) | (refine awp_exit ?_; simp only [go_sem]) | (refine awp_ret ?_; try simp only [go_sem]) | (refine awp_condP rfl ?_; try simp only [go_sem]) | (refine BrP.mk (fun h => ?_) (fun h => ?_) <;> try simp (dsimp := false) (disch := omega) only [wrap64]) | (refine Br.mk (fun h => ?_) (fun h => ?_) <;> try simp (dsimp := false) (disch := omega) only [wrap64]) | refine Ob.mk (by first | omega | (intro _ _; rfl) | trivial | (intros; trivial) | assumption | (intro i hi; have h0 : i = 0 := (by omega); subst h0; first | rfl | trivial) | (intro i hi; have h0 : i = 0 ∨ i = 1 := (by omega); rcases h0 with rfl | rfl <;> rfl) | (intro i hi; have h0 : i = 0 ∨ i = 1 ∨ i = 2 := (by omega); rcases h0 with rfl | rfl | rfl <;> rfl)) ?_ | apply_assumption -exfalso -symm)
  all_goals (first | (show endQ _ _ _ _ _ _ _; (repeat (rename (∀ (A : Fr) (H : Hp), AWP _ _ _ _ A H → _) => hK; clear hK)); (repeat (rename (Fr → Hp → Prop) => K; clear K))) | (show Exists _; (repeat (rename (∀ (A : Fr) (H : Hp), AWP _ _ _ _ A H → _) => hK; clear hK)); (repeat (rename (Fr → Hp → Prop) => K; clear K))) | skip)
  exact end_post rfl rfl (Hp.le_refl _) ⟨_, ⟨_, rfl⟩, rfl⟩
theorem between_ok (d : Dc) (lo hi : Int) (hn : -1000000000000 ≤ lo ∧ lo ≤ hi ∧ hi ≤ 1000000000000) : AC Try.prog 115 [.ref 1000000 0, .v (.int .i64 (lo)), .v (.int .i64 (hi))] (DH .i64 d) pM (postD .i64 fun r => ∃ v : Int, (lo ≤ v ∧ v ≤ hi) ∧ r = .v (.int .i64 (v))) := by
  refine ac_of_awp (N := ⟨_, pM, fun h hh => pM_low (Nat.lt_of_lt_of_le hh (by decide))⟩) Try.func115 rfl (by kernel_rfl) Try.ntmps115 (by simp) ?_
  simp only [argsFr, List.zipIdx_cons, List.zipIdx_nil, go_sem]
  unfold DH
  repeat' (first | ((first | refine atF (f := 129) ?_ | refine atQ (f := 129) ?_); (refine callD (by rfl) (sBelowP_ok _ _ (by omega)) (by rintro _ ⟨v, _, rfl⟩ _; rfl) (fun r d' hq => ?_); obtain ⟨v, hv, rfl⟩ := hq) <;> simp (maxSteps := 1000000) (dsimp := false) (implicitDefEqProofs := false) (disch := omega) only [wrap64, go_sem]) | refine awp_seqK fun K hK => ?_ | (refine awp_regionK 71 rfl ?_; simp only [List.map_cons, List.map_nil]; simp (maxSteps := 1000000) (dsimp := false) (implicitDefEqProofs := false) (disch := omega) only [wrap64, go_sem]) | (refine awp_regionQK 71 (by kernel_rfl) (by kernel_rfl) (by kernel_rfl) ?_; simp only [List.map_cons, List.map_nil]; simp (maxSteps := 1000000) (dsimp := false) (implicitDefEqProofs := false) (disch := omega) only [wrap64, go_sem]) | refine awp_block ?_ | (refine awp_skip ?_; simp only [go_sem]) | (refine awp_exit ?_; simp only [go_sem]) | (refine awp_ret ?_; try simp only [go_sem]) | (refine awp_condP rfl ?_; try simp only [go_sem]) | (refine BrP.mk (fun h => ?_) (fun h => ?_) <;> try simp (dsimp := false) (disch := omega) only [wrap64]) | (refine Br.mk (fun h => ?_) (fun h => ?_) <;> try simp (dsimp := false) (disch := omega) only [wrap64]) | refine Ob.mk (by first | omega | (intro _ _; rfl) | trivial | (intros; trivial) | assumption | (intro i hi; have h0 : i = 0 := (by omega); subst h0; first | rfl | trivial) | (intro i hi; have h0 : i = 0 ∨ i = 1 := (by omega); rcases h0 with rfl | rfl <;> rfl) | (intro i hi; have h0 : i = 0 ∨ i = 1 ∨ i = 2 := (by omega); rcases h0 with rfl | rfl | rfl <;> rfl)) ?_ | apply_assumption -exfalso -symm)
  all_goals (first | (show endQ _ _ _ _ _ _ _; (repeat (rename (∀ (A : Fr) (H : Hp), AWP _ _ _ _ A H → _) => hK; clear hK)); (repeat (rename (Fr → Hp → Prop) => K; clear K))) | (show Exists _; (repeat (rename (∀ (A : Fr) (H : Hp), AWP _ _ _ _ A H → _) => hK; clear hK)); (repeat (rename (Fr → Hp → Prop) => K; clear K))) | skip)
  exact end_post rfl rfl (Hp.le_refl _) ⟨_, ⟨_, by omega, rfl⟩, rfl⟩
theorem extremeInt_ok (d : Dc) : AC Try.prog 130 [.ref 1000000 0] (DH .i64 d) pM (postD .i64 fun r => ∃ v : Int, r64 v ∧ r = .v (.int .i64 (v))) := by
  refine ac_of_awp (N := ⟨_, pM, fun h hh => pM_low (Nat.lt_of_lt_of_le hh (by decide))⟩) Try.func130 rfl (by kernel_rfl) Try.ntmps130 (by simp) ?_
  simp only [argsFr, List.zipIdx_cons, List.zipIdx_nil, go_sem]
  unfold DH
  repeat' (first | ((first | refine atF (f := 129) ?_ | refine atQ (f := 129) ?_); (refine callD (by rfl) (sBelowP_ok _ _ (by omega)) (by rintro _ ⟨v, _, rfl⟩ _; rfl) (fun r d' hq => ?_); obtain ⟨v, hv, rfl⟩ := hq) <;> simp (maxSteps := 1000000) (dsimp := false) (implicitDefEqProofs := false) (disch := omega) only [wrap64, go_sem]) | refine awp_seqK fun K hK => ?_ | (refine awp_regionK 5 rfl ?_; simp only [List.map_cons, List.map_nil]; simp (maxSteps := 1000000) (dsimp := false) (implicitDefEqProofs := false) (disch := omega) only [wrap64, go_sem]) | (refine awp_regionQK 5 (by kernel_rfl) (by kernel_rfl) (by kernel_rfl) ?_; simp only [List.map_cons, List.map_nil]; simp (maxSteps := 1000000) (dsimp := false) (implicitDefEqProofs := false) (disch := omega) only [wrap64, go_sem]) | refine awp_block ?_ | (refine awp_skip ?_; simp only [go_sem]) | (refine awp_exit ?_; simp only [go_sem]) | (refine awp_ret ?_; try simp only [go_sem]) | (refine awp_condP rfl ?_; try simp only [go_sem]) | (refine BrP.mk (fun h => ?_) (fun h => ?_) <;> try simp (dsimp := false) (disch := omega) only [wrap64]) | (refine Br.mk (fun h => ?_) (fun h => ?_) <;> try simp (dsimp := false) (disch := omega) only [wrap64]) | refine Ob.mk (by first | omega | (intro _ _; rfl) | trivial | (intros; trivial) | assumption | (intro i hi; have h0 : i = 0 := (by omega); subst h0; first | rfl | trivial) | (intro i hi; have h0 : i = 0 ∨ i = 1 := (by omega); rcases h0 with rfl | rfl <;> rfl) | (intro i hi; have h0 : i = 0 ∨ i = 1 ∨ i = 2 := (by omega); rcases h0 with rfl | rfl | rfl <;> rfl)) ?_ | apply_assumption -exfalso -symm)
  all_goals (first | (show endQ _ _ _ _ _ _ _; (repeat (rename (∀ (A : Fr) (H : Hp), AWP _ _ _ _ A H → _) => hK; clear hK)); (repeat (rename (Fr → Hp → Prop) => K; clear K))) | (show Exists _; (repeat (rename (∀ (A : Fr) (H : Hp), AWP _ _ _ _ A H → _) => hK; clear hK)); (repeat (rename (Fr → Hp → Prop) => K; clear K))) | skip)
  have e : v = 0 ∨ v = 1 ∨ v = 2 ∨ v = 3 ∨ v = 4 ∨ v = 5 ∨ v = 6 ∨ v = 7 ∨ v = 8 ∨ v = 9 := by omega
  rcases e with rfl | rfl | rfl | rfl | rfl | rfl | rfl | rfl | rfl | rfl
  all_goals exact end_post rfl rfl (Hp.le_upd rfl (Hp.le_emp _)) ⟨d', ⟨_, by unfold r64; first | omega | decide, rfl⟩, rfl⟩
theorem sDrawWord_ok (d : Dc) (g : Int) (hg : 0 ≤ g ∧ g ≤ 1000) : AC Try.prog 62 [.ref 1000000 0, .v (.int .i64 (g))] (DH .i64 d) pM (postDI iv 0 .i64 900 fun w => w.length ≤ 6 ∧ ∀ x ∈ w, -1000 ≤ x ∧ x ≤ 1000) := by
  refine ac_of_awp (N := ⟨_, pM, fun h hh => pM_low (Nat.lt_of_lt_of_le hh (by decide))⟩) Try.func62 rfl (by kernel_rfl) Try.ntmps62 (by simp) ?_
  simp only [argsFr, List.zipIdx_cons, List.zipIdx_nil, go_sem]
  unfold DH
  repeat' (first | ((first | refine atF (f := 129) ?_ | refine atQ (f := 129) ?_); (refine callD (by rfl) (sBelowP_ok _ _ (by omega)) (by rintro _ ⟨v, _, rfl⟩ _; rfl) (fun r d' hq => ?_); obtain ⟨v, hv, rfl⟩ := hq) <;> simp (maxSteps := 1000000) (dsimp := false) (implicitDefEqProofs := false) (disch := omega) only [wrap64, go_sem]) | refine awp_seqK fun K hK => ?_ | (refine awp_regionK 16842995 rfl ?_; simp only [List.map_cons, List.map_nil]; simp (maxSteps := 1000000) (dsimp := false) (implicitDefEqProofs := false) (disch := omega) only [wrap64, go_sem]) | (refine awp_regionQK 16842995 (by kernel_rfl) (by kernel_rfl) (by kernel_rfl) ?_; simp only [List.map_cons, List.map_nil]; simp (maxSteps := 1000000) (dsimp := false) (implicitDefEqProofs := false) (disch := omega) only [wrap64, go_sem]) | refine awp_block ?_ | (refine awp_skip ?_; simp only [go_sem]) | (refine awp_exit ?_; simp only [go_sem]) | (refine awp_ret ?_; try simp only [go_sem]) | (refine awp_condP rfl ?_; try simp only [go_sem]) | (refine BrP.mk (fun h => ?_) (fun h => ?_) <;> try simp (dsimp := false) (disch := omega) only [wrap64]) | (refine Br.mk (fun h => ?_) (fun h => ?_) <;> try simp (dsimp := false) (disch := omega) only [wrap64]) | refine Ob.mk (by first | omega | (intro _ _; rfl) | trivial | (intros; trivial) | assumption | (intro i hi; have h0 : i = 0 := (by omega); subst h0; first | rfl | trivial) | (intro i hi; have h0 : i = 0 ∨ i = 1 := (by omega); rcases h0 with rfl | rfl <;> rfl) | (intro i hi; have h0 : i = 0 ∨ i = 1 ∨ i = 2 := (by omega); rcases h0 with rfl | rfl | rfl <;> rfl)) ?_ | apply_assumption -exfalso -symm)
  all_goals (first | (show endQ _ _ _ _ _ _ _; (repeat (rename (∀ (A : Fr) (H : Hp), AWP _ _ _ _ A H → _) => hK; clear hK)); (repeat (rename (Fr → Hp → Prop) => K; clear K))) | (show Exists _; (repeat (rename (∀ (A : Fr) (H : Hp), AWP _ _ _ _ A H → _) => hK; clear hK)); (repeat (rename (Fr → Hp → Prop) => K; clear K))) | skip)
  obtain ⟨n, rfl⟩ := Int.eq_ofNat_of_zero_le hv.1
  refine awp_loop (ι := Nat × List Int × Dc) (fun k => [(6, .v (.int .i64 ((k.1 : Nat)))), (5, .own 8 0 1 k.2.1.length), (0, .ref 1000000 0), (1, .v (.int .i64 (g)))]) (fun k => (Hp.emp.upd 1000000 (.cells 3 (dF .i64 k.2.2))).upd 8 (.cells k.2.1.length (cM iv 0 k.2.1))) (fun k => k.1 + k.2.1.length ≤ 6 ∧ ∀ x ∈ k.2.1, -1000 ≤ x ∧ x ≤ 1000) (fun k => k.1) (n, [], d') ⟨by simp; omega, by simp⟩ (Sub.toL (by simp only [go_sem] <;> first | trivial | (simp only [Option.some.injEq, AV.v.injEq, AV.own.injEq, AV.list.injEq, Value.int.injEq, Value.bool.injEq, true_and, and_true]; first | omega | (simp; done)) | (simp; done) | (simp; omega)) (by (repeat' (first | exact Hp.le_emp _ | exact Hp.le_refl _ | refine Hp.le_upd ?_ ?_)); all_goals (first | rfl | (simp only [go_sem]; first | rfl | (refine cellsE ?_ ?_ <;> (simp)) | (simp))))) ?_
  rintro ⟨k, w, d1⟩ ⟨hk, hw⟩
  dsimp only at hk hw ⊢
  repeat' (first | ((first | refine atF (f := 129) ?_ | refine atQ (f := 129) ?_); (refine callD (by rfl) (sBelowP_ok _ _ (by omega)) (by rintro _ ⟨v, _, rfl⟩ _; rfl) (fun r d2 hq => ?_); obtain ⟨v2, hv2, rfl⟩ := hq) <;> simp (maxSteps := 1000000) (dsimp := false) (implicitDefEqProofs := false) (disch := omega) only [wrap64, go_sem]) | ((first | refine atF (f := 60) ?_ | refine atQ (f := 60) ?_); (refine callD (by rfl) (oneIn_ok _ _ (by omega)) (by rintro _ ⟨v, _, rfl⟩ _; rfl) (fun r d3 hq => ?_); obtain ⟨v3, hv3, rfl⟩ := hq) <;> simp (maxSteps := 1000000) (dsimp := false) (implicitDefEqProofs := false) (disch := omega) only [wrap64, go_sem]) | refine awp_seqK fun K hK => ?_ | (refine awp_regionK 16842995 rfl ?_; simp only [List.map_cons, List.map_nil]; simp (maxSteps := 1000000) (dsimp := false) (implicitDefEqProofs := false) (disch := omega) only [wrap64, go_sem]) | (refine awp_regionQK 16842995 (by kernel_rfl) (by kernel_rfl) (by kernel_rfl) ?_; simp only [List.map_cons, List.map_nil]; simp (maxSteps := 1000000) (dsimp := false) (implicitDefEqProofs := false) (disch := omega) only [wrap64, go_sem]) | refine awp_block ?_ | (refine awp_skip ?_; simp only [go_sem]) | (refine awp_exit ?_; simp only [go_sem]) | (refine awp_ret ?_; try simp only [go_sem]) | (refine awp_condP rfl ?_; try simp only [go_sem]) | (refine BrP.mk (fun h => ?_) (fun h => ?_) <;> try simp (dsimp := false) (disch := omega) only [wrap64]) | (refine Br.mk (fun h => ?_) (fun h => ?_) <;> try simp (dsimp := false) (disch := omega) only [wrap64]) | refine Ob.mk (by first | omega | (intro _ _; rfl) | trivial | (intros; trivial) | assumption | (intro i hi; have h0 : i = 0 := (by omega); subst h0; first | rfl | trivial) | (intro i hi; have h0 : i = 0 ∨ i = 1 := (by omega); rcases h0 with rfl | rfl <;> rfl) | (intro i hi; have h0 : i = 0 ∨ i = 1 ∨ i = 2 := (by omega); rcases h0 with rfl | rfl | rfl <;> rfl)) ?_ | apply_assumption -exfalso -symm)
  all_goals (first | (show endQ _ _ _ _ _ _ _; (repeat (rename (∀ (A : Fr) (H : Hp), AWP _ _ _ _ A H → _) => hK; clear hK)); (repeat (rename (Fr → Hp → Prop) => K; clear K))) | (show Exists _; (repeat (rename (∀ (A : Fr) (H : Hp), AWP _ _ _ _ A H → _) => hK; clear hK)); (repeat (rename (Fr → Hp → Prop) => K; clear K))) | skip)
  · refine ⟨(k - 1, w ++ [0 - (1 + v2)], d3), ⟨by simp; omega, fun x hx => ?_⟩, by omega, Sub.toL (by simp only [go_sem] <;> first | trivial | (simp only [Option.some.injEq, AV.v.injEq, AV.own.injEq, AV.list.injEq, Value.int.injEq, Value.bool.injEq, true_and, and_true]; first | omega | (simp; done)) | (simp; done) | (simp; omega)) (by (repeat' (first | exact Hp.le_emp _ | exact Hp.le_refl _ | refine Hp.le_upd ?_ ?_)); all_goals (first | rfl | (simp only [go_sem]; first | rfl | (refine cellsE ?_ ?_ <;> (simp)) | (simp))))⟩
    rcases List.mem_append.1 hx with h1 | h1
    · exact hw x h1
    · rw [List.mem_singleton.1 h1]; omega
  · refine ⟨(k - 1, w ++ [1 + v2], d3), ⟨by simp; omega, fun x hx => ?_⟩, by omega, Sub.toL (by simp only [go_sem] <;> first | trivial | (simp only [Option.some.injEq, AV.v.injEq, AV.own.injEq, AV.list.injEq, Value.int.injEq, Value.bool.injEq, true_and, and_true]; first | omega | (simp; done)) | (simp; done) | (simp; omega)) (by (repeat' (first | exact Hp.le_emp _ | exact Hp.le_refl _ | refine Hp.le_upd ?_ ?_)); all_goals (first | rfl | (simp only [go_sem]; first | rfl | (refine cellsE ?_ ?_ <;> (simp)) | (simp))))⟩
    rcases List.mem_append.1 hx with h1 | h1
    · exact hw x h1
    · rw [List.mem_singleton.1 h1]; omega
  all_goals exact end_DI (d := d1) (xs := w) rfl rfl rfl rfl rfl (fun _ _ => rfl) rfl (by decide) (by decide) (fun _ => trivial) ⟨by omega, hw⟩
theorem sDrawAnyWord_ok (d : Dc) : AC Try.prog 61 [.ref 1000000 0] (DH .i64 d) pM (postD .i64 fun r => ∃ w : List Int, (w.length ≤ 201 ∧ ∀ x ∈ w, r64 x) ∧ r = ints w) := by
  refine ac_of_awp (N := ⟨_, pM, fun h hh => pM_low (Nat.lt_of_lt_of_le hh (by decide))⟩) Try.func61 rfl (by kernel_rfl) Try.ntmps61 (by simp) ?_
  simp only [argsFr, List.zipIdx_cons, List.zipIdx_nil, go_sem]
  unfold DH
  repeat' (first | ((first | refine atF (f := 62) ?_ | refine atQ (f := 62) ?_); (refine callDI (by rfl) (sDrawWord_ok _ 3 (by omega)) (fun _ _ => rfl) (by decide) rfl (fun d1 w hw => ?_)) <;> simp (maxSteps := 1000000) (dsimp := false) (implicitDefEqProofs := false) (disch := omega) only [wrap64, go_sem]) | ((first | refine atF (f := 129) ?_ | refine atQ (f := 129) ?_); (refine callD (by rfl) (sBelowP_ok _ _ (by omega)) (by rintro _ ⟨v, _, rfl⟩ _; rfl) (fun r d2 hq => ?_); obtain ⟨v2, hv2, rfl⟩ := hq) <;> simp (maxSteps := 1000000) (dsimp := false) (implicitDefEqProofs := false) (disch := omega) only [wrap64, go_sem]) | ((first | refine atF (f := 60) ?_ | refine atQ (f := 60) ?_); (refine callD (by rfl) (oneIn_ok _ _ (by omega)) (by rintro _ ⟨v, _, rfl⟩ _; rfl) (fun r d3 hq => ?_); obtain ⟨v3, hv3, rfl⟩ := hq) <;> simp (maxSteps := 1000000) (dsimp := false) (implicitDefEqProofs := false) (disch := omega) only [wrap64, go_sem]) | ((first | refine atF (f := 115) ?_ | refine atQ (f := 115) ?_); (refine callD (by rfl) (between_ok _ _ _ (by omega)) (by rintro _ ⟨v, _, rfl⟩ _; rfl) (fun r d2 hq => ?_); obtain ⟨v2, hv2, rfl⟩ := hq) <;> simp (maxSteps := 1000000) (dsimp := false) (implicitDefEqProofs := false) (disch := omega) only [wrap64, go_sem]) | ((first | refine atF (f := 130) ?_ | refine atQ (f := 130) ?_); (refine callD (by rfl) (extremeInt_ok _) (by rintro _ ⟨v, _, rfl⟩ _; rfl) (fun r d2 hq => ?_); obtain ⟨v4, hv4, rfl⟩ := hq) <;> simp (maxSteps := 1000000) (dsimp := false) (implicitDefEqProofs := false) (disch := omega) only [wrap64, go_sem]) | refine awp_seqK fun K hK => ?_ | (refine awp_regionK 2164393613 rfl ?_; simp only [List.map_cons, List.map_nil]; simp (maxSteps := 1000000) (dsimp := false) (implicitDefEqProofs := false) (disch := omega) only [wrap64, go_sem]) | (refine awp_regionQK 2164393613 (by kernel_rfl) (by kernel_rfl) (by kernel_rfl) ?_; simp only [List.map_cons, List.map_nil]; simp (maxSteps := 1000000) (dsimp := false) (implicitDefEqProofs := false) (disch := omega) only [wrap64, go_sem]) | refine awp_block ?_ | (refine awp_skip ?_; simp only [go_sem]) | (refine awp_exit ?_; simp only [go_sem]) | (refine awp_ret ?_; try simp only [go_sem]) | (refine awp_condP rfl ?_; try simp only [go_sem]) | (refine BrP.mk (fun h => ?_) (fun h => ?_) <;> try simp (dsimp := false) (disch := omega) only [wrap64]) | (refine Br.mk (fun h => ?_) (fun h => ?_) <;> try simp (dsimp := false) (disch := omega) only [wrap64]) | refine Ob.mk (by first | omega | (intro _ _; rfl) | trivial | (intros; trivial) | assumption | (intro i hi; have h0 : i = 0 := (by omega); subst h0; first | rfl | trivial) | (intro i hi; have h0 : i = 0 ∨ i = 1 := (by omega); rcases h0 with rfl | rfl <;> rfl) | (intro i hi; have h0 : i = 0 ∨ i = 1 ∨ i = 2 := (by omega); rcases h0 with rfl | rfl | rfl <;> rfl)) ?_ | apply_assumption -exfalso -symm)
  all_goals (first | (show endQ _ _ _ _ _ _ _; (repeat (rename (∀ (A : Fr) (H : Hp), AWP _ _ _ _ A H → _) => hK; clear hK)); (repeat (rename (Fr → Hp → Prop) => K; clear K))) | (show Exists _; (repeat (rename (∀ (A : Fr) (H : Hp), AWP _ _ _ _ A H → _) => hK; clear hK)); (repeat (rename (Fr → Hp → Prop) => K; clear K))) | skip)
  · obtain ⟨hw1, hw2⟩ := hw
    refine end_DF (D := fun x => x = 900) rfl rfl rfl (fits_I rfl rfl rfl (by simp)) (by decide) ⟨_, ⟨by simp; omega, fun x hx => ?_⟩, rfl⟩
    rcases List.mem_append.1 hx with h1 | h1
    · have := hw2 x h1; unfold r64; omega
    · rw [List.mem_singleton.1 h1]; exact hv4
  · obtain ⟨hw1, hw2⟩ := hw
    refine end_DF (D := fun x => x = 900) rfl rfl rfl (fits_I rfl rfl rfl (by simp)) (by decide) ⟨_, ⟨by simp; omega, fun x hx => ?_⟩, rfl⟩
    rcases List.mem_append.1 hx with h1 | h1
    · have := hw2 x h1; unfold r64; omega
    · rw [List.mem_singleton.1 h1]; unfold r64; omega
  · refine awp_loop (ι := List Int × Dc) (fun k => [(3, .own 900 0 1 k.1.length), (0, .ref 1000000 0)]) (fun k => (Hp.emp.upd 1000000 (.cells 3 (dF .i64 k.2))).upd 900 (.cells k.1.length (cM iv 0 k.1))) (fun k => k.1.length ≤ 201 ∧ ∀ x ∈ k.1, -1000 ≤ x ∧ x ≤ 1000) (fun k => 201 - k.1.length) (w, d2) ⟨by have := hw.1; dsimp only; omega, hw.2⟩ (Sub.toL (by simp only [go_sem] <;> first | trivial | (simp only [Option.some.injEq, AV.v.injEq, AV.own.injEq, AV.list.injEq, Value.int.injEq, Value.bool.injEq, true_and, and_true]; first | omega | (simp; done)) | (simp; done) | (simp; omega)) (by (repeat' (first | exact Hp.le_emp _ | exact Hp.le_refl _ | refine Hp.le_upd ?_ ?_)); all_goals (first | rfl | (simp only [go_sem]; first | rfl | (refine cellsE ?_ ?_ <;> (simp)) | (simp))))) ?_
    rintro ⟨w, d4⟩ ⟨hk, hw⟩
    dsimp only at hk hw ⊢
    repeat' (first | ((first | refine atF (f := 129) ?_ | refine atQ (f := 129) ?_); (refine callD (by rfl) (sBelowP_ok _ _ (by omega)) (by rintro _ ⟨v, _, rfl⟩ _; rfl) (fun r d2 hq => ?_); obtain ⟨v2, hv2, rfl⟩ := hq) <;> simp (maxSteps := 1000000) (dsimp := false) (implicitDefEqProofs := false) (disch := omega) only [wrap64, go_sem]) | ((first | refine atF (f := 115) ?_ | refine atQ (f := 115) ?_); (refine callD (by rfl) (between_ok _ _ _ (by omega)) (by rintro _ ⟨v, _, rfl⟩ _; rfl) (fun r d5 hq => ?_); obtain ⟨v5, hv5, rfl⟩ := hq) <;> simp (maxSteps := 1000000) (dsimp := false) (implicitDefEqProofs := false) (disch := omega) only [wrap64, go_sem]) | refine awp_seqK fun K hK => ?_ | (refine awp_regionK 2164393613 rfl ?_; simp only [List.map_cons, List.map_nil]; simp (maxSteps := 1000000) (dsimp := false) (implicitDefEqProofs := false) (disch := omega) only [wrap64, go_sem]) | (refine awp_regionQK 2164393613 (by kernel_rfl) (by kernel_rfl) (by kernel_rfl) ?_; simp only [List.map_cons, List.map_nil]; simp (maxSteps := 1000000) (dsimp := false) (implicitDefEqProofs := false) (disch := omega) only [wrap64, go_sem]) | refine awp_block ?_ | (refine awp_skip ?_; simp only [go_sem]) | (refine awp_exit ?_; simp only [go_sem]) | (refine awp_ret ?_; try simp only [go_sem]) | (refine awp_condP rfl ?_; try simp only [go_sem]) | (refine BrP.mk (fun h => ?_) (fun h => ?_) <;> try simp (dsimp := false) (disch := omega) only [wrap64]) | (refine Br.mk (fun h => ?_) (fun h => ?_) <;> try simp (dsimp := false) (disch := omega) only [wrap64]) | refine Ob.mk (by first | omega | (intro _ _; rfl) | trivial | (intros; trivial) | assumption | (intro i hi; have h0 : i = 0 := (by omega); subst h0; first | rfl | trivial) | (intro i hi; have h0 : i = 0 ∨ i = 1 := (by omega); rcases h0 with rfl | rfl <;> rfl) | (intro i hi; have h0 : i = 0 ∨ i = 1 ∨ i = 2 := (by omega); rcases h0 with rfl | rfl | rfl <;> rfl)) ?_ | apply_assumption -exfalso -symm)
    all_goals (first | (show endQ _ _ _ _ _ _ _; (repeat (rename (∀ (A : Fr) (H : Hp), AWP _ _ _ _ A H → _) => hK; clear hK)); (repeat (rename (Fr → Hp → Prop) => K; clear K))) | (show Exists _; (repeat (rename (∀ (A : Fr) (H : Hp), AWP _ _ _ _ A H → _) => hK; clear hK)); (repeat (rename (Fr → Hp → Prop) => K; clear K))) | skip)
    · refine ⟨(w ++ [1 + v2], d2), ⟨by simp; omega, fun x hx => ?_⟩, by simp; omega, Sub.toL (by simp only [go_sem] <;> first | trivial | (simp only [Option.some.injEq, AV.v.injEq, AV.own.injEq, AV.list.injEq, Value.int.injEq, Value.bool.injEq, true_and, and_true]; first | omega | (simp; done)) | (simp; done) | (simp; omega)) (by (repeat' (first | exact Hp.le_emp _ | exact Hp.le_refl _ | refine Hp.le_upd ?_ ?_)); all_goals (first | rfl | (simp only [go_sem]; first | rfl | (refine cellsE ?_ ?_ <;> (simp)) | (simp))))⟩
      rcases List.mem_append.1 hx with h1 | h1
      · exact hw x h1
      · rw [List.mem_singleton.1 h1]; omega
    · exact end_DF (D := fun x => x = 900) rfl rfl rfl (fits_I rfl rfl rfl rfl) (by decide) ⟨_, ⟨hk, fun x hx => by have := hw x hx; unfold r64; omega⟩, rfl⟩
  · omega
  · exact end_DF (D := fun x => x = 900) rfl rfl rfl (fits_I rfl rfl rfl rfl) (by decide) ⟨_, ⟨by have := hw.1; omega, fun x hx => by have := hw.2 x hx; unfold r64; omega⟩, rfl⟩
theorem newSource_ok (xs : List Int) (hx : ∀ j, 0 ≤ xs.getD j 0 ∧ xs.getD j 0 ≤ 255) (hl : xs.length ≤ 4096) : AC Try.prog 58 [bts xs] Hp.emp (fun _ => false) (postD .i64 fun r => r = .ref 1000000 0) := by
  refine ac_of_awp (N := ⟨_, fun _ => false, fun _ _ => rfl⟩) Try.func58 rfl (by kernel_rfl) Try.ntmps58 (by simp) ?_
  simp only [argsFr, List.zipIdx_cons, List.zipIdx_nil, go_sem]
  unfold bts
  repeat' (first | refine awp_seqK fun K hK => ?_ | (refine awp_regionK 2077 rfl ?_; simp only [List.map_cons, List.map_nil]; simp (maxSteps := 1000000) (dsimp := false) (implicitDefEqProofs := false) (disch := omega) only [wrap64, go_sem]) | (refine awp_regionQK 2077 (by kernel_rfl) (by kernel_rfl) (by kernel_rfl) ?_; simp only [List.map_cons, List.map_nil]; simp (maxSteps := 1000000) (dsimp := false) (implicitDefEqProofs := false) (disch := omega) only [wrap64, go_sem]) | refine awp_block ?_ | (refine awp_skip ?_; simp only [go_sem]) | (refine awp_exit ?_; simp only [go_sem]) | (refine awp_ret ?_; try simp only [go_sem]) | (refine awp_condP rfl ?_; try simp only [go_sem]) | (refine BrP.mk (fun h => ?_) (fun h => ?_) <;> try simp (dsimp := false) (disch := omega) only [wrap64]) | (refine Br.mk (fun h => ?_) (fun h => ?_) <;> try simp (dsimp := false) (disch := omega) only [wrap64]) | refine Ob.mk (by first | omega | (intro _ _; rfl) | trivial | (intros; trivial) | assumption | (intro i hi; have h0 : i = 0 := (by omega); subst h0; first | rfl | trivial) | (intro i hi; have h0 : i = 0 ∨ i = 1 := (by omega); rcases h0 with rfl | rfl <;> rfl) | (intro i hi; have h0 : i = 0 ∨ i = 1 ∨ i = 2 := (by omega); rcases h0 with rfl | rfl | rfl <;> rfl)) ?_ | apply_assumption -exfalso -symm)
  all_goals (first | (show endQ _ _ _ _ _ _ _; (repeat (rename (∀ (A : Fr) (H : Hp), AWP _ _ _ _ A H → _) => hK; clear hK)); (repeat (rename (Fr → Hp → Prop) => K; clear K))) | (show Exists _; (repeat (rename (∀ (A : Fr) (H : Hp), AWP _ _ _ _ A H → _) => hK; clear hK)); (repeat (rename (Fr → Hp → Prop) => K; clear K))) | skip)
  refine awp_loop (ι := Nat × Int) (fun k => [(4, .v (.int .i64 (k.1))), (3, .v (.int .i64 (k.2))), (0, bts xs)]) (fun k => Hp.emp) (fun k => k.1 ≤ xs.length ∧ 0 ≤ k.2 ∧ k.2 ≤ 1073741823) (fun k => xs.length - k.1) (0, 590033 + (xs.length : Int)) ⟨Nat.zero_le _, by dsimp only; omega, by dsimp only; omega⟩ (Sub.toL (by simp only [go_sem] <;> first | trivial | (simp only [Option.some.injEq, AV.v.injEq, AV.own.injEq, AV.list.injEq, Value.int.injEq, Value.bool.injEq, true_and, and_true]; first | omega | (simp; done)) | (simp; done) | (simp; omega)) (by (repeat' (first | exact Hp.le_emp _ | exact Hp.le_refl _ | refine Hp.le_upd ?_ ?_)); all_goals (first | rfl | (simp only [go_sem]; first | rfl | (refine cellsE ?_ ?_ <;> (simp)) | (simp))))) ?_
  rintro ⟨k, z⟩ hk
  dsimp only at hk ⊢
  have hxk := hx k
  have e1 : IntKind.i64.wrap (xs.getD k 0) = xs.getD k 0 := wrap64 (by omega)
  repeat' (first | refine awp_seqK fun K hK => ?_ | (refine awp_regionK 2077 rfl ?_; simp only [List.map_cons, List.map_nil]; simp (maxSteps := 1000000) (dsimp := false) (implicitDefEqProofs := false) (disch := omega) only [wrap64, go_sem, e1, List.getElem?_cons_zero, List.getElem?_cons_succ]) | (refine awp_regionQK 2077 (by kernel_rfl) (by kernel_rfl) (by kernel_rfl) ?_; simp only [List.map_cons, List.map_nil]; simp (maxSteps := 1000000) (dsimp := false) (implicitDefEqProofs := false) (disch := omega) only [wrap64, go_sem, e1, List.getElem?_cons_zero, List.getElem?_cons_succ]) | refine awp_block ?_ | (refine awp_skip ?_; simp only [go_sem, e1, List.getElem?_cons_zero, List.getElem?_cons_succ]) | (refine awp_exit ?_; simp only [go_sem, e1, List.getElem?_cons_zero, List.getElem?_cons_succ]) | (refine awp_ret ?_; try simp only [go_sem, e1, List.getElem?_cons_zero, List.getElem?_cons_succ]) | (refine awp_condP rfl ?_; try simp only [go_sem, e1, List.getElem?_cons_zero, List.getElem?_cons_succ]) | (refine BrP.mk (fun h => ?_) (fun h => ?_) <;> try simp (dsimp := false) (disch := omega) only [wrap64]) | (refine Br.mk (fun h => ?_) (fun h => ?_) <;> try simp (dsimp := false) (disch := omega) only [wrap64]) | refine Ob.mk (by first | omega | (intro _ _; rfl) | trivial | (intros; trivial) | assumption | (intro i hi; have h0 : i = 0 := (by omega); subst h0; first | rfl | trivial) | (intro i hi; have h0 : i = 0 ∨ i = 1 := (by omega); rcases h0 with rfl | rfl <;> rfl) | (intro i hi; have h0 : i = 0 ∨ i = 1 ∨ i = 2 := (by omega); rcases h0 with rfl | rfl | rfl <;> rfl)) ?_ | apply_assumption -exfalso -symm)
  all_goals (first | (show endQ _ _ _ _ _ _ _; (repeat (rename (∀ (A : Fr) (H : Hp), AWP _ _ _ _ A H → _) => hK; clear hK)); (repeat (rename (Fr → Hp → Prop) => K; clear K))) | (show Exists _; (repeat (rename (∀ (A : Fr) (H : Hp), AWP _ _ _ _ A H → _) => hK; clear hK)); (repeat (rename (Fr → Hp → Prop) => K; clear K))) | skip)
  · exact ⟨(k + 1, andI (z * 337 + xs.getD k 0 + 11) 1073741823), ⟨by dsimp only; omega, andI_ok _ _ (by omega)⟩, by dsimp only; omega, Sub.toL (by simp only [go_sem] <;> first | trivial | (simp only [Option.some.injEq, AV.v.injEq, AV.own.injEq, AV.list.injEq, Value.int.injEq, Value.bool.injEq, true_and, and_true]; first | omega | (simp; done)) | (simp; done) | (simp; omega)) (by (repeat' (first | exact Hp.le_emp _ | exact Hp.le_refl _ | refine Hp.le_upd ?_ ?_)); all_goals (first | rfl | (simp only [go_sem]; first | rfl | (refine cellsE ?_ ?_ <;> (simp)) | (simp))))⟩
  · refine end_postS (H' := DH .i64 ⟨xs, 0, z, Nat.zero_le _, hx, hl⟩) rfl (Sub.layM (fun h => if h = 1000000 then some 27 else none) rfl (lay_cons ⟨_, rfl, .ref rfl⟩ lay_nil) (layF_upd (g := 27) (n := 3) rfl rfl (fun i hi => ?_) layF_emp) ?_) ⟨_, rfl, rfl⟩
    · match i, hi with
      | 0, _ => exact .plain trivial
      | 1, _ => exact .plain trivial
      | 2, _ => exact .plain trivial
    · intro x y k hx hy h1 h2
      split at h1
      · split at h2
        · omega
        · cases h2
      · cases h1
end Go.Proofs.Ytngpacdhpblpbaa
end
/- Free reduction, and the lengths of words: both texts. -/
section
namespace Go.Proofs.Ytngpacdhpblpbaa
open Go.Av
set_option linter.unusedSimpArgs false
set_option linter.unusedVariables false
attribute [local irreducible] AWP CallG Ob Br BrP Go.Av.Sub endQ AOps OpV AC thenA blkA opsVC opVC withA withArgs opsQ opQ CallQ withA2 withArgs2
open Go.Wd (fr frS)
end Go.Proofs.Ytngpacdhpblpbaa
end
/- Runs of letters: the program's. -/
section
namespace Go.Proofs.Ytngpacdhpblpbaa
open Go.Av
set_option linter.unusedSimpArgs false
set_option linter.unusedVariables false
attribute [local irreducible] AWP CallG Ob Br BrP Go.Av.Sub endQ AOps OpV AC thenA blkA opsVC opVC withA withArgs opsQ opQ CallQ withA2 withArgs2
open Go.Wd (runsK)
end Go.Proofs.Ytngpacdhpblpbaa
end
/- The lengths of words; words one behind the other. -/
section
namespace Go.Proofs.Ytngpacdhpblpbaa
open Go.Av
set_option linter.unusedSimpArgs false
set_option linter.unusedVariables false
attribute [local irreducible] AWP CallG Ob Br BrP Go.Av.Sub endQ AOps OpV AC thenA blkA opsVC opVC withA withArgs opsQ opQ CallQ withA2 withArgs2
open Go.Wd (fr runsK)
end Go.Proofs.Ytngpacdhpblpbaa
end
/- Words one behind the other: both texts. -/
section
namespace Go.Proofs.Ytngpacdhpblpbaa
open Go.Av
set_option linter.unusedSimpArgs false
set_option linter.unusedVariables false
attribute [local irreducible] AWP CallG Ob Br BrP Go.Av.Sub endQ AOps OpV AC thenA blkA opsVC opVC withA withArgs opsQ opQ CallQ withA2 withArgs2
def invP (w : List Int) : List Int := if isW 8 w then inv w else []
theorem implInvertWord_ok (w : List Int) (d : Nat) : AC Try.prog 16 [ints w] Hp.emp (fun _ => false) (retI d (invP w)) := by
  refine ac_of_awp (N := ⟨_, fun _ => false, fun _ _ => rfl⟩) Try.func16 rfl (by kernel_rfl) Try.ntmps16 (by simp) ?_
  simp only [argsFr, List.zipIdx_cons, List.zipIdx_nil, go_sem]
  repeat' (first | refine awp_seqK fun K hK => ?_ | (refine awp_regionK 37 rfl ?_; simp only [List.map_cons, List.map_nil]; simp (maxSteps := 1000000) (dsimp := false) (implicitDefEqProofs := false) (disch := omega) only [wrap64, go_sem]) | (refine awp_regionQK 37 (by kernel_rfl) (by kernel_rfl) (by kernel_rfl) ?_; simp only [List.map_cons, List.map_nil]; simp (maxSteps := 1000000) (dsimp := false) (implicitDefEqProofs := false) (disch := omega) only [wrap64, go_sem]) | refine awp_block ?_ | (refine awp_skip ?_; simp only [go_sem]) | (refine awp_exit ?_; simp only [go_sem]) | (refine awp_ret ?_; try simp only [go_sem]) | (refine awp_condP rfl ?_; try simp only [go_sem]) | (refine BrP.mk (fun h => ?_) (fun h => ?_) <;> try simp (dsimp := false) (disch := omega) only [wrap64]) | (refine Br.mk (fun h => ?_) (fun h => ?_) <;> try simp (dsimp := false) (disch := omega) only [wrap64]) | refine Ob.mk (by first | omega | (intro _ _; rfl) | trivial | (intros; trivial) | assumption | (intro i hi; have h0 : i = 0 := (by omega); subst h0; first | rfl | trivial) | (intro i hi; have h0 : i = 0 ∨ i = 1 := (by omega); rcases h0 with rfl | rfl <;> rfl) | (intro i hi; have h0 : i = 0 ∨ i = 1 ∨ i = 2 := (by omega); rcases h0 with rfl | rfl | rfl <;> rfl)) ?_ | ((first | ((first | refine atF (f := 72) ?_ | refine atQ (f := 72) ?_); (first | (refine cV (hac := implIsWord_ok w) (hK := ?_)) | (refine cQV (hac := implIsWord_ok w) (hK := ?_)))) | ((first | refine atF (f := 73) ?_ | refine atQ (f := 73) ?_); (first | (refine cI (hac := inverseWord_okW w (by assumption) 41) (hK := ?_)) | (refine cQI (hac := inverseWord_okW w (by assumption) 41) (hK := ?_))))); simp (maxSteps := 1000000) (dsimp := false) (implicitDefEqProofs := false) (disch := omega) only [wrap64, go_sem]) | apply_assumption -exfalso -symm)
  all_goals (first | (show endQ _ _ _ _ _ _ _; (repeat (rename (∀ (A : Fr) (H : Hp), AWP _ _ _ _ A H → _) => hK; clear hK)); (repeat (rename (Fr → Hp → Prop) => K; clear K))) | (show Exists _; (repeat (rename (∀ (A : Fr) (H : Hp), AWP _ _ _ _ A H → _) => hK; clear hK)); (repeat (rename (Fr → Hp → Prop) => K; clear K))) | skip)
  all_goals
    (first | refine end_retI' rfl rfl rfl ?_ rfl rfl | refine end_retI_nil' rfl rfl ?_ rfl)
    unfold invP
    first
    | (rw [if_pos (by assumption)]; done)
    | (rw [if_neg (by assumption)]; first | done | rfl)
end Go.Proofs.Ytngpacdhpblpbaa
end
/- Which of two words is less: both texts, any words. -/
section
namespace Go.Proofs.Ytngpacdhpblpbaa
open Go.Av
set_option linter.unusedSimpArgs false
set_option linter.unusedVariables false
attribute [local irreducible] AWP CallG Ob Br BrP Go.Av.Sub endQ AOps OpV AC thenA blkA opsVC opVC withA withArgs opsQ opQ CallQ withA2 withArgs2
/-- The first letters that differ say which word is less. -/
def wlx : List Int → List Int → Int
  | x :: xs, y :: ys => if x = y then wlx xs ys else rk x - rk y
  | _, _ => 0
def cmpW (a b : List Int) : Int := if a.length ≠ b.length then (a.length : Int) - b.length else wlx a b
def lessW (a b : List Int) : Prop := isW 8 a ∧ isW 8 b ∧ cmpW a b < 0
instance (a b : List Int) : Decidable (lessW a b) := by unfold lessW; infer_instance
end Go.Proofs.Ytngpacdhpblpbaa
end
/- The reference's sources: permutations and generators that are drawn. -/
section
namespace Go.Proofs.Ytngpacdhpblpbaa
open Go.Av
set_option linter.unusedSimpArgs false
set_option linter.unusedVariables false
attribute [local irreducible] AWP CallG Ob Br BrP Go.Av.Sub endQ AOps OpV AC thenA blkA opsVC opVC withA withArgs opsQ opQ CallQ withA2 withArgs2
theorem fits_take {H : Hp} {D : Nat → Prop} {h m N : Nat} {st : List Int} (hH : H h = some (.cells N (cM iv 0 st))) (hD : D h) (hN : N = st.length) (hm : m ≤ N) : Fits H D (.own h 0 1 m) (ints (st.take m)) := by
  show Fits H D (.own h 0 1 m) (.list false 1 (st.take m).length (cM iv 0 (st.take m)))
  rw [List.length_take, Nat.min_eq_left (by omega)]
  refine .own hH hD (by omega) (fun i hi => trivial) fun i hi => ?_
  rw [Nat.mul_one] at hi
  refine .ofEq ?_
  unfold cM
  congr 1
  rw [Nat.zero_add]
  simp [List.getD_eq_getElem?_getD, List.getElem?_take, hi]
theorem drawPerm_ok (d : Dc) (n : Int) (hn : 0 ≤ n ∧ n ≤ 21) : AC Try.prog 160 [.ref 1000000 0, .v (.int .i64 (n))] (DH .i64 d) pM (postDI iv 0 .i64 901 fun w => (w.length : Int) = n ∧ ∀ x ∈ w, 0 ≤ x ∧ x < n) := by
  refine ac_of_awp (N := ⟨_, pM, fun h hh => pM_low (Nat.lt_of_lt_of_le hh (by decide))⟩) Try.func160 rfl (by kernel_rfl) Try.ntmps160 (by simp) ?_
  simp only [argsFr, List.zipIdx_cons, List.zipIdx_nil, go_sem]
  unfold DH
  repeat' (first | refine awp_seqK fun K hK => ?_ | (refine awp_regionK 2291 rfl ?_; simp only [List.map_cons, List.map_nil]; simp (maxSteps := 1000000) (dsimp := false) (implicitDefEqProofs := false) (disch := omega) only [wrap64, go_sem]) | (refine awp_regionQK 2291 (by kernel_rfl) (by kernel_rfl) (by kernel_rfl) ?_; simp only [List.map_cons, List.map_nil]; simp (maxSteps := 1000000) (dsimp := false) (implicitDefEqProofs := false) (disch := omega) only [wrap64, go_sem]) | refine awp_block ?_ | (refine awp_skip ?_; simp only [go_sem]) | (refine awp_exit ?_; simp only [go_sem]) | (refine awp_ret ?_; try simp only [go_sem]) | (refine awp_condP rfl ?_; try simp only [go_sem]) | (refine BrP.mk (fun h => ?_) (fun h => ?_) <;> try simp (dsimp := false) (disch := omega) only [wrap64]) | (refine Br.mk (fun h => ?_) (fun h => ?_) <;> try simp (dsimp := false) (disch := omega) only [wrap64]) | refine Ob.mk (by first | omega | (intro _ _; rfl) | trivial | (intros; trivial) | assumption | (intro i hi; have h0 : i = 0 := (by omega); subst h0; first | rfl | trivial) | (intro i hi; have h0 : i = 0 ∨ i = 1 := (by omega); rcases h0 with rfl | rfl <;> rfl) | (intro i hi; have h0 : i = 0 ∨ i = 1 ∨ i = 2 := (by omega); rcases h0 with rfl | rfl | rfl <;> rfl)) ?_ | apply_assumption -exfalso -symm)
  all_goals (first | (show endQ _ _ _ _ _ _ _; (repeat (rename (∀ (A : Fr) (H : Hp), AWP _ _ _ _ A H → _) => hK; clear hK)); (repeat (rename (Fr → Hp → Prop) => K; clear K))) | (show Exists _; (repeat (rename (∀ (A : Fr) (H : Hp), AWP _ _ _ _ A H → _) => hK; clear hK)); (repeat (rename (Fr → Hp → Prop) => K; clear K))) | skip)
  refine awp_loop (ι := Nat × List Int × Dc) (fun k => [(6, .v (.int .i64 ((k.1 : Nat)))), (5, .own 30 0 1 k.1), (0, .ref 1000000 0), (1, .v (.int .i64 (n)))]) (fun k => (DH .i64 k.2.2).upd 30 (.cells k.1 (cM iv 0 k.2.1))) (fun k => k.1 ≤ n ∧ k.2.1.length = k.1 ∧ ∀ x ∈ k.2.1, 0 ≤ x ∧ x < n) (fun k => n.toNat - k.1) (0, [], d) ⟨by omega, rfl, by simp⟩ (Sub.mvD 30 8 (lay_cons ⟨_, rfl, .plain trivial⟩ (lay_cons ⟨_, rfl, .own rfl⟩ (lay_cons ⟨_, rfl, .ref rfl⟩ (lay_cons ⟨_, rfl, .plain trivial⟩ lay_nil)))) rfl rfl (fun i hi => by omega) rfl (by omega) (by omega) (fun _ => trivial)) ?_
  rintro ⟨k, w, d1⟩ ⟨hk, hw, hx⟩
  dsimp only at hk hw hx ⊢
  unfold DH
  have e1 : ∀ m : Nat, m ≤ k → (w.take m).length = m := fun m hm => by rw [List.length_take]; omega
  have e2 : ∀ m : Nat, m ≤ k → m + (k - m) = k := fun m hm => by omega
  have e3 : ∀ m : Nat, m ≤ k → m + 1 + (k - m) = k + 1 := fun m hm => by omega
  repeat' (first | ((first | refine atF (f := 129) ?_ | refine atQ (f := 129) ?_); (refine callD (by rfl) (sBelowP_ok _ _ (by omega)) (by rintro _ ⟨v, _, rfl⟩ _; rfl) (fun r d' hq => ?_); obtain ⟨v, hv, rfl⟩ := hq) <;> simp (maxSteps := 1000000) (dsimp := false) (implicitDefEqProofs := false) (disch := omega) only [wrap64, go_sem, Nat.sub_zero, e1, e2, e3, Nat.le_refl]) | (refine awp_regionGK (id := 6) 2291 [0,1,2,4,5,7,8,9] [3,6,10,11] [18,19,20,22,23,25,26,27,5,7,6] (by kernel_rfl) (by kernel_rfl) (by kernel_rfl) ?_; simp only [List.map_cons, List.map_nil, List.take_succ_cons, List.take_zero, List.drop_succ_cons, List.drop_zero, List.cons_append, List.nil_append, opsG, pickL, linkVC, gxVC]; simp (maxSteps := 1000000) (dsimp := false) (implicitDefEqProofs := false) (disch := omega) only [wrap64, go_sem, Nat.sub_zero, e1, e2, e3, Nat.le_refl]) | refine Ob.mk (AllH.mk fun _ => ?_) ?_ | exact True.intro | refine awp_seqK fun K hK => ?_ | (refine awp_regionK 2291 rfl ?_; simp only [List.map_cons, List.map_nil]; simp (maxSteps := 1000000) (dsimp := false) (implicitDefEqProofs := false) (disch := omega) only [wrap64, go_sem, Nat.sub_zero, e1, e2, e3, Nat.le_refl]) | (refine awp_regionQK 2291 (by kernel_rfl) (by kernel_rfl) (by kernel_rfl) ?_; simp only [List.map_cons, List.map_nil]; simp (maxSteps := 1000000) (dsimp := false) (implicitDefEqProofs := false) (disch := omega) only [wrap64, go_sem, Nat.sub_zero, e1, e2, e3, Nat.le_refl]) | refine awp_block ?_ | (refine awp_skip ?_; simp only [go_sem, Nat.sub_zero, e1, e2, e3, Nat.le_refl]) | (refine awp_exit ?_; simp only [go_sem, Nat.sub_zero, e1, e2, e3, Nat.le_refl]) | (refine awp_ret ?_; try simp only [go_sem, Nat.sub_zero, e1, e2, e3, Nat.le_refl]) | (refine awp_condP rfl ?_; try simp only [go_sem, Nat.sub_zero, e1, e2, e3, Nat.le_refl]) | (refine BrP.mk (fun h => ?_) (fun h => ?_) <;> try simp (dsimp := false) (disch := omega) only [wrap64]) | (refine Br.mk (fun h => ?_) (fun h => ?_) <;> try simp (dsimp := false) (disch := omega) only [wrap64]) | refine Ob.mk (by first | omega | (intro _ _; rfl) | trivial | (intros; trivial) | assumption | (intro i hi; have h0 : i = 0 := (by omega); subst h0; first | rfl | trivial) | (intro i hi; have h0 : i = 0 ∨ i = 1 := (by omega); rcases h0 with rfl | rfl <;> rfl) | (intro i hi; have h0 : i = 0 ∨ i = 1 ∨ i = 2 := (by omega); rcases h0 with rfl | rfl | rfl <;> rfl)) ?_ | ((first | (refine atP (f := 152) ?_; (refine callPI (.cons (fits_take rfl trivial (by omega) (by omega)) .nil) (specCopyInts_ok (w.take v.toNat) (by rw [List.length_take]; omega) 900) rfl ?_))); simp (maxSteps := 1000000) (dsimp := false) (implicitDefEqProofs := false) (disch := omega) only [wrap64, go_sem, Nat.sub_zero, e1, e2, e3, Nat.le_refl]) | apply_assumption -exfalso -symm)
  all_goals (first | (show endQ _ _ _ _ _ _ _; (repeat (rename (∀ (A : Fr) (H : Hp), AWP _ _ _ _ A H → _) => hK; clear hK)); (repeat (rename (Fr → Hp → Prop) => K; clear K))) | (show Exists _; (repeat (rename (∀ (A : Fr) (H : Hp), AWP _ _ _ _ A H → _) => hK; clear hK)); (repeat (rename (Fr → Hp → Prop) => K; clear K))) | skip)
  · have hxs : ∀ x ∈ w.take v.toNat ++ [(k : Int)] ++ w.drop v.toNat, 0 ≤ x ∧ x < n := fun x hm => by
      rcases List.mem_append.1 hm with h | h
      · rcases List.mem_append.1 h with h | h
        · exact hx x (List.mem_of_mem_take h)
        · rw [List.mem_singleton.1 h]; omega
      · exact hx x (List.mem_of_mem_drop h)
    refine ⟨(k + 1, w.take v.toNat ++ [(k : Int)] ++ w.drop v.toNat, d'), ⟨by dsimp only; omega, by simp; omega, hxs⟩, by dsimp only; omega, Sub.mvD 30 900 (lay_cons ⟨_, rfl, .plain trivial⟩ (lay_cons ⟨_, rfl, .own rfl⟩ (lay_cons ⟨_, rfl, .ref rfl⟩ (lay_cons ⟨_, rfl, .plain trivial⟩ lay_nil)))) rfl rfl (fun i hi => ?_) rfl (by omega) (by omega) (fun _ => trivial)⟩
    have h1 := e1 v.toNat (by omega)
    have h2 : (w.take v.toNat ++ [(k : Int)]).length = v.toNat + 1 := by rw [List.length_append, h1]; rfl
    have h3 := apF_cM iv 0 (w.take v.toNat) [(k : Int)]
    have h4 := apF_cM iv 0 (w.take v.toNat ++ [(k : Int)]) (w.drop v.toNat)
    rw [h1] at h3; rw [h2] at h4
    rw [h3, h4]
  · exact end_DI (d := d1) (xs := w) rfl rfl rfl rfl hw.symm (fun _ _ => rfl) rfl (by decide) (by decide) (fun _ => trivial) ⟨by omega, hx⟩
end Go.Proofs.Ytngpacdhpblpbaa
end
/- The reference's sources: numbers, permutations and groups that are drawn. -/
section
namespace Go.Proofs.Ytngpacdhpblpbaa
open Go.Av
set_option linter.unusedSimpArgs false
set_option linter.unusedVariables false
attribute [local irreducible] AWP CallG Ob Br BrP Go.Av.Sub endQ AOps OpV AC thenA blkA opsVC opVC withA withArgs opsQ opQ CallQ withA2 withArgs2
theorem fits_shift {H : Hp} {D : Nat → Prop} {h off n N : Nat} {st : List Int} (hH : H h = some (.cells N (cM iv 0 st))) (hD : D h) (hN : N = st.length) (hn : off + n = st.length) : Fits H D (.own h off 1 n) (ints (st.drop off)) := by
  show Fits H D (.own h off 1 n) (.list false 1 (st.drop off).length (cM iv 0 (st.drop off)))
  rw [List.length_drop, show st.length - off = n by omega]
  refine .own hH hD (by omega) (fun i hi => trivial) fun i hi => ?_
  refine .ofEq ?_
  unfold cM
  congr 1
  simp [List.getD_eq_getElem?_getD]
theorem numberUpTo_ok (d : Dc) (n : Int) (hn : 0 ≤ n ∧ n ≤ 1000) : AC Try.prog 143 [.ref 1000000 0, .v (.int .i64 (n))] (DH .i64 d) pM (postD .i64 fun r => ∃ v : Int, r64 v ∧ r = .v (.int .i64 (v))) := by
  refine ac_of_awp (N := ⟨_, pM, fun h hh => pM_low (Nat.lt_of_lt_of_le hh (by decide))⟩) Try.func143 rfl (by kernel_rfl) Try.ntmps143 (by simp) ?_
  simp only [argsFr, List.zipIdx_cons, List.zipIdx_nil, go_sem]
  unfold DH
  repeat' (first | ((first | refine atF (f := 129) ?_ | refine atQ (f := 129) ?_); (refine callD (by rfl) (sBelowP_ok _ _ (by omega)) (by rintro _ ⟨v, _, rfl⟩ _; rfl) (fun r d' hq => ?_); obtain ⟨v, hv, rfl⟩ := hq) <;> simp (maxSteps := 1000000) (dsimp := false) (implicitDefEqProofs := false) (disch := omega) only [wrap64, go_sem]) | ((first | refine atF (f := 60) ?_ | refine atQ (f := 60) ?_); (refine callD (by rfl) (oneIn_ok _ _ (by omega)) (by rintro _ ⟨v, _, rfl⟩ _; rfl) (fun r d3 hq => ?_); obtain ⟨v3, hv3, rfl⟩ := hq) <;> simp (maxSteps := 1000000) (dsimp := false) (implicitDefEqProofs := false) (disch := omega) only [wrap64, go_sem]) | ((first | refine atF (f := 130) ?_ | refine atQ (f := 130) ?_); (refine callD (by rfl) (extremeInt_ok _) (by rintro _ ⟨v, _, rfl⟩ _; rfl) (fun r d2 hq => ?_); obtain ⟨v4, hv4, rfl⟩ := hq) <;> simp (maxSteps := 1000000) (dsimp := false) (implicitDefEqProofs := false) (disch := omega) only [wrap64, go_sem]) | refine awp_seqK fun K hK => ?_ | (refine awp_regionK 262227 rfl ?_; simp only [List.map_cons, List.map_nil]; simp (maxSteps := 1000000) (dsimp := false) (implicitDefEqProofs := false) (disch := omega) only [wrap64, go_sem]) | (refine awp_regionQK 262227 (by kernel_rfl) (by kernel_rfl) (by kernel_rfl) ?_; simp only [List.map_cons, List.map_nil]; simp (maxSteps := 1000000) (dsimp := false) (implicitDefEqProofs := false) (disch := omega) only [wrap64, go_sem]) | refine awp_block ?_ | (refine awp_skip ?_; simp only [go_sem]) | (refine awp_exit ?_; simp only [go_sem]) | (refine awp_ret ?_; try simp only [go_sem]) | (refine awp_condP rfl ?_; try simp only [go_sem]) | (refine BrP.mk (fun h => ?_) (fun h => ?_) <;> try simp (dsimp := false) (disch := omega) only [wrap64]) | (refine Br.mk (fun h => ?_) (fun h => ?_) <;> try simp (dsimp := false) (disch := omega) only [wrap64]) | refine Ob.mk (by first | omega | (intro _ _; rfl) | trivial | (intros; trivial) | assumption | (intro i hi; have h0 : i = 0 := (by omega); subst h0; first | rfl | trivial) | (intro i hi; have h0 : i = 0 ∨ i = 1 := (by omega); rcases h0 with rfl | rfl <;> rfl) | (intro i hi; have h0 : i = 0 ∨ i = 1 ∨ i = 2 := (by omega); rcases h0 with rfl | rfl | rfl <;> rfl)) ?_ | apply_assumption -exfalso -symm)
  all_goals (first | (show endQ _ _ _ _ _ _ _; (repeat (rename (∀ (A : Fr) (H : Hp), AWP _ _ _ _ A H → _) => hK; clear hK)); (repeat (rename (Fr → Hp → Prop) => K; clear K))) | (show Exists _; (repeat (rename (∀ (A : Fr) (H : Hp), AWP _ _ _ _ A H → _) => hK; clear hK)); (repeat (rename (Fr → Hp → Prop) => K; clear K))) | skip)
  · have e : v = 0 ∨ v = 1 ∨ v = 2 ∨ v = 3 := by omega
    have h4 := hv4
    unfold r64 at h4
    rcases e with rfl | rfl | rfl | rfl
    all_goals exact end_post rfl rfl (Hp.le_upd rfl (Hp.le_emp _)) ⟨d', ⟨_, by first | exact hv4 | (unfold r64; first | omega | (show (-9223372036854775808 : Int) ≤ -1 ∧ (-1 : Int) ≤ 9223372036854775807; decide) | (show (-9223372036854775808 : Int) ≤ n ∧ n ≤ 9223372036854775807; omega)), rfl⟩, rfl⟩
  · exact end_post rfl rfl (Hp.le_refl _) ⟨_, ⟨v, by unfold r64; omega, rfl⟩, rfl⟩
  · exact end_post rfl rfl (Hp.le_refl _) ⟨_, ⟨v, by unfold r64; omega, rfl⟩, rfl⟩
theorem drawAnyPerm_ok (d : Dc) (n : Int) (hn : 1 ≤ n ∧ n ≤ 20) : AC Try.prog 116 [.ref 1000000 0, .v (.int .i64 (n))] (DH .i64 d) pM (postD .i64 fun r => ∃ w : List Int, (w.length ≤ 21 ∧ ∀ x ∈ w, r64 x) ∧ r = ints w) := by
  refine ac_of_awp (N := ⟨_, pM, fun h hh => pM_low (Nat.lt_of_lt_of_le hh (by decide))⟩) Try.func116 rfl (by kernel_rfl) Try.ntmps116 (by simp) ?_
  simp only [argsFr, List.zipIdx_cons, List.zipIdx_nil, go_sem]
  unfold DH
  repeat' (first | ((first | refine atF (f := 160) ?_ | refine atQ (f := 160) ?_); (refine callDI (by rfl) (drawPerm_ok _ _ (by omega)) (fun _ _ => rfl) (by decide) rfl (fun d1 w hw => ?_)) <;> simp (maxSteps := 1000000) (dsimp := false) (implicitDefEqProofs := false) (disch := omega) only [wrap64, go_sem]) | ((first | refine atF (f := 129) ?_ | refine atQ (f := 129) ?_); (refine callD (by rfl) (sBelowP_ok _ _ (by omega)) (by rintro _ ⟨v, _, rfl⟩ _; rfl) (fun r d' hq => ?_); obtain ⟨v, hv, rfl⟩ := hq) <;> simp (maxSteps := 1000000) (dsimp := false) (implicitDefEqProofs := false) (disch := omega) only [wrap64, go_sem]) | ((first | refine atF (f := 60) ?_ | refine atQ (f := 60) ?_); (refine callD (by rfl) (oneIn_ok _ _ (by omega)) (by rintro _ ⟨v, _, rfl⟩ _; rfl) (fun r d3 hq => ?_); obtain ⟨v3, hv3, rfl⟩ := hq) <;> simp (maxSteps := 1000000) (dsimp := false) (implicitDefEqProofs := false) (disch := omega) only [wrap64, go_sem]) | ((first | refine atF (f := 143) ?_ | refine atQ (f := 143) ?_); (refine callD (by rfl) (numberUpTo_ok _ _ (by omega)) (by rintro _ ⟨v, _, rfl⟩ _; rfl) (fun r d2 hq => ?_); obtain ⟨v4, hv4, rfl⟩ := hq) <;> simp (maxSteps := 1000000) (dsimp := false) (implicitDefEqProofs := false) (disch := omega) only [wrap64, go_sem]) | refine awp_seqK fun K hK => ?_ | (refine awp_regionK 277159821363 rfl ?_; simp only [List.map_cons, List.map_nil]; simp (maxSteps := 1000000) (dsimp := false) (implicitDefEqProofs := false) (disch := omega) only [wrap64, go_sem]) | (refine awp_regionQK 277159821363 (by kernel_rfl) (by kernel_rfl) (by kernel_rfl) ?_; simp only [List.map_cons, List.map_nil]; simp (maxSteps := 1000000) (dsimp := false) (implicitDefEqProofs := false) (disch := omega) only [wrap64, go_sem]) | refine awp_block ?_ | (refine awp_skip ?_; simp only [go_sem]) | (refine awp_exit ?_; simp only [go_sem]) | (refine awp_ret ?_; try simp only [go_sem]) | (refine awp_condP rfl ?_; try simp only [go_sem]) | (refine BrP.mk (fun h => ?_) (fun h => ?_) <;> try simp (dsimp := false) (disch := omega) only [wrap64]) | (refine Br.mk (fun h => ?_) (fun h => ?_) <;> try simp (dsimp := false) (disch := omega) only [wrap64]) | refine Ob.mk (by first | omega | (intro _ _; rfl) | trivial | (intros; trivial) | assumption | (intro i hi; have h0 : i = 0 := (by omega); subst h0; first | rfl | trivial) | (intro i hi; have h0 : i = 0 ∨ i = 1 := (by omega); rcases h0 with rfl | rfl <;> rfl) | (intro i hi; have h0 : i = 0 ∨ i = 1 ∨ i = 2 := (by omega); rcases h0 with rfl | rfl | rfl <;> rfl)) ?_ | apply_assumption -exfalso -symm)
  all_goals (first | (show endQ _ _ _ _ _ _ _; (repeat (rename (∀ (A : Fr) (H : Hp), AWP _ _ _ _ A H → _) => hK; clear hK)); (repeat (rename (Fr → Hp → Prop) => K; clear K))) | (show Exists _; (repeat (rename (∀ (A : Fr) (H : Hp), AWP _ _ _ _ A H → _) => hK; clear hK)); (repeat (rename (Fr → Hp → Prop) => K; clear K))) | skip)
  all_goals first
  | omega
  | exact end_DF (D := fun x => x = 901) rfl rfl rfl (fits_I rfl rfl rfl rfl) (by decide) ⟨_, ⟨by omega, fun x hx => by have := hw.2 x hx; unfold r64; omega⟩, rfl⟩
  | (refine end_DF (D := fun x => x = 901) rfl rfl rfl (fits_I rfl rfl rfl (by simp)) (by decide) ⟨_, ⟨by simp; omega, fun x hx => ?_⟩, rfl⟩
     rcases List.mem_append.1 hx with h | h
     · have := hw.2 x h; unfold r64; omega
     · rw [List.mem_singleton.1 h]; unfold r64; omega)
  | (refine end_DF (D := fun x => x = 901) rfl rfl rfl (fits_shift rfl rfl rfl (by show 1 + (w.length - 1) = w.length; omega)) (by decide) ⟨_, ⟨by rw [List.length_drop]; omega, fun x hx => ?_⟩, rfl⟩
     have := hw.2 x (List.mem_of_mem_drop hx); unfold r64; omega)
  | (refine end_DF (D := fun x => x = 901) rfl rfl rfl (fits_I rfl rfl rfl (by simp)) (by decide) ⟨_, ⟨by simp; omega, fun x hx => ?_⟩, rfl⟩
     rcases List.mem_or_eq_of_mem_set hx with h | rfl
     · have := hw.2 x h; unfold r64; omega
     · exact hv4)
theorem app_fit {H : Hp} {D : Nat → Prop} {h n : Nat} {g : List Int} {z : Nat → AV} (gs : List (List Int)) (hH : H h = some (.cells n (cM iv 0 g))) (hD : D h) (hn : n = g.length) : ∀ i, i < gs.length + 1 → Fits H D (apF gs.length (cM ints [] gs) (setF z 0 (.own h 0 1 n)) i) (cM ints [] (gs ++ [g]) i) := fun i hi => by
  by_cases hi2 : i < gs.length
  · exact .ofEq (by simp [apF, cM, List.getD_eq_getElem?_getD, List.getElem?_append, hi2])
  · have hi3 : i = gs.length := by omega
    have e2 : apF gs.length (cM ints [] gs) (setF z 0 (.own h 0 1 n)) i = .own h 0 1 n := by subst hi3; simp [apF, setF]
    have e3 : cM ints [] (gs ++ [g]) i = ints g := by subst hi3; simp [cM, List.getD_eq_getElem?_getD]
    rw [e2, e3]
    exact fits_I hH hD rfl hn
theorem gs_add {gs : List (List Int)} {g : List Int} (h : ∀ g ∈ gs, g.length ≤ 21 ∧ ∀ x ∈ g, r64 x) (hg : g.length ≤ 21 ∧ ∀ x ∈ g, r64 x) : ∀ x ∈ gs ++ [g], x.length ≤ 21 ∧ ∀ y ∈ x, r64 y := fun x hx => by
  rcases List.mem_append.1 hx with h1 | h1
  · exact h x h1
  · rw [List.mem_singleton.1 h1]; exact hg
theorem drawGens_ok (d : Dc) (n : Int) (hn : 1 ≤ n ∧ n ≤ 7) : AC Try.prog 142 [.ref 1000000 0, .v (.int .i64 (n))] (DH .i64 d) pM (postDI ints [] .i64 903 fun gs => gs.length ≤ 3 ∧ ∀ g ∈ gs, g.length ≤ 21 ∧ ∀ x ∈ g, r64 x) := by
  refine ac_of_awp (N := ⟨_, pM, fun h hh => pM_low (Nat.lt_of_lt_of_le hh (by decide))⟩) Try.func142 rfl (by kernel_rfl) Try.ntmps142 (by simp) ?_
  simp only [argsFr, List.zipIdx_cons, List.zipIdx_nil, go_sem]
  unfold DH
  repeat' (first | ((first | refine atF (f := 129) ?_ | refine atQ (f := 129) ?_); (refine callD (by rfl) (sBelowP_ok _ _ (by omega)) (by rintro _ ⟨v, _, rfl⟩ _; rfl) (fun r d' hq => ?_); obtain ⟨v, hv, rfl⟩ := hq) <;> simp (maxSteps := 1000000) (dsimp := false) (implicitDefEqProofs := false) (disch := omega) only [wrap64, go_sem]) | refine awp_seqK fun K hK => ?_ | (refine awp_regionK 74904233904115 rfl ?_; simp only [List.map_cons, List.map_nil]; simp (maxSteps := 1000000) (dsimp := false) (implicitDefEqProofs := false) (disch := omega) only [wrap64, go_sem]) | (refine awp_regionQK 74904233904115 (by kernel_rfl) (by kernel_rfl) (by kernel_rfl) ?_; simp only [List.map_cons, List.map_nil]; simp (maxSteps := 1000000) (dsimp := false) (implicitDefEqProofs := false) (disch := omega) only [wrap64, go_sem]) | refine awp_block ?_ | (refine awp_skip ?_; simp only [go_sem]) | (refine awp_exit ?_; simp only [go_sem]) | (refine awp_ret ?_; try simp only [go_sem]) | (refine awp_condP rfl ?_; try simp only [go_sem]) | (refine BrP.mk (fun h => ?_) (fun h => ?_) <;> try simp (dsimp := false) (disch := omega) only [wrap64]) | (refine Br.mk (fun h => ?_) (fun h => ?_) <;> try simp (dsimp := false) (disch := omega) only [wrap64]) | refine Ob.mk (by first | omega | (intro _ _; rfl) | trivial | (intros; trivial) | assumption | (intro i hi; have h0 : i = 0 := (by omega); subst h0; first | rfl | trivial) | (intro i hi; have h0 : i = 0 ∨ i = 1 := (by omega); rcases h0 with rfl | rfl <;> rfl) | (intro i hi; have h0 : i = 0 ∨ i = 1 ∨ i = 2 := (by omega); rcases h0 with rfl | rfl | rfl <;> rfl)) ?_ | apply_assumption -exfalso -symm)
  all_goals (first | (show endQ _ _ _ _ _ _ _; (repeat (rename (∀ (A : Fr) (H : Hp), AWP _ _ _ _ A H → _) => hK; clear hK)); (repeat (rename (Fr → Hp → Prop) => K; clear K))) | (show Exists _; (repeat (rename (∀ (A : Fr) (H : Hp), AWP _ _ _ _ A H → _) => hK; clear hK)); (repeat (rename (Fr → Hp → Prop) => K; clear K))) | skip)
  obtain ⟨m, hm⟩ : ∃ m : Nat, (m : Int) = 1 + v := ⟨(1 + v).toNat, by omega⟩
  obtain ⟨N, hN⟩ : ∃ N : Nat, (N : Int) = n := ⟨n.toNat, by omega⟩
  subst hN
  rw [← hm]
  refine awp_loop (ι := Nat × List (List Int) × Dc) (fun k => [(6, .v (.int .i64 ((k.1 : Nat)))), (5, .own 11 0 1 k.2.1.length), (0, .ref 1000000 0), (1, .v (.int .i64 (N)))]) (fun k => (Hp.emp.upd 1000000 (.cells 3 (dF .i64 k.2.2))).upd 11 (.cells k.2.1.length (cM ints [] k.2.1))) (fun k => k.1 + k.2.1.length ≤ 3 ∧ ∀ g ∈ k.2.1, g.length ≤ 21 ∧ ∀ x ∈ g, r64 x) (fun k => k.1) (m, [], d') ⟨by simp; omega, by simp⟩ (Sub.toFF (fun _ => False) (Fr.fit_cons rfl (.refl _) (Fr.fit_cons rfl (.refl _) (Fr.fit_cons rfl (.refl _) (Fr.fit_cons rfl (.refl _) (Fr.fit_nil _))))) (leF_upd rfl ⟨rfl, fun i hi => absurd hi (by simp)⟩ (leF_upd rfl (.refl _ _ _) leF_emp id) id)) ?_
  rintro ⟨k, gs, d1⟩ ⟨hk, hgs⟩
  dsimp only at hk hgs ⊢
  have hml : (marks 0 N).length = N := by simp [marks]
  have hmr : ∀ x ∈ marks 0 N, r64 x := fun x hx => by
    obtain ⟨i, hi, rfl⟩ := List.mem_map.1 hx
    have := List.mem_range.1 hi
    unfold r64; omega
  repeat' (first | ((first | refine atF (f := 129) ?_ | refine atQ (f := 129) ?_); (refine callD (by rfl) (sBelowP_ok _ _ (by omega)) (by rintro _ ⟨v, _, rfl⟩ _; rfl) (fun r d' hq => ?_); obtain ⟨v, hv, rfl⟩ := hq) <;> simp (maxSteps := 1000000) (dsimp := false) (implicitDefEqProofs := false) (disch := omega) only [wrap64, go_sem, hml, List.length_set]) | ((first | refine atF (f := 160) ?_ | refine atQ (f := 160) ?_); (refine callDI (by rfl) (drawPerm_ok _ _ (by omega)) (fun _ _ => rfl) (by decide) rfl (fun d2 w hw => ?_)) <;> simp (maxSteps := 1000000) (dsimp := false) (implicitDefEqProofs := false) (disch := omega) only [wrap64, go_sem, hml, List.length_set]) | refine awp_seqK fun K hK => ?_ | (refine awp_regionK 74904233904115 rfl ?_; simp only [List.map_cons, List.map_nil]; simp (maxSteps := 1000000) (dsimp := false) (implicitDefEqProofs := false) (disch := omega) only [wrap64, go_sem, hml, List.length_set]) | (refine awp_regionQK 74904233904115 (by kernel_rfl) (by kernel_rfl) (by kernel_rfl) ?_; simp only [List.map_cons, List.map_nil]; simp (maxSteps := 1000000) (dsimp := false) (implicitDefEqProofs := false) (disch := omega) only [wrap64, go_sem, hml, List.length_set]) | refine awp_block ?_ | (refine awp_skip ?_; simp only [go_sem, hml, List.length_set]) | (refine awp_exit ?_; simp only [go_sem, hml, List.length_set]) | (refine awp_ret ?_; try simp only [go_sem, hml, List.length_set]) | (refine awp_condP rfl ?_; try simp only [go_sem, hml, List.length_set]) | (refine BrP.mk (fun h => ?_) (fun h => ?_) <;> try simp (dsimp := false) (disch := omega) only [wrap64]) | (refine Br.mk (fun h => ?_) (fun h => ?_) <;> try simp (dsimp := false) (disch := omega) only [wrap64]) | refine Ob.mk (by first | omega | (intro _ _; rfl) | trivial | (intros; trivial) | assumption | (intro i hi; have h0 : i = 0 := (by omega); subst h0; first | rfl | trivial) | (intro i hi; have h0 : i = 0 ∨ i = 1 := (by omega); rcases h0 with rfl | rfl <;> rfl) | (intro i hi; have h0 : i = 0 ∨ i = 1 ∨ i = 2 := (by omega); rcases h0 with rfl | rfl | rfl <;> rfl)) ?_ | ((first | ((first | refine atF (f := 81) ?_ | refine atQ (f := 81) ?_); (first | (refine cI (hac := specIdentity_ok N (by omega) 20) (hK := ?_)) | (refine cQI (hac := specIdentity_ok N (by omega) 20) (hK := ?_))))); simp (maxSteps := 1000000) (dsimp := false) (implicitDefEqProofs := false) (disch := omega) only [wrap64, go_sem, hml, List.length_set]) | apply_assumption -exfalso -symm)
  all_goals (first | (show endQ _ _ _ _ _ _ _; (repeat (rename (∀ (A : Fr) (H : Hp), AWP _ _ _ _ A H → _) => hK; clear hK)); (repeat (rename (Fr → Hp → Prop) => K; clear K))) | (show Exists _; (repeat (rename (∀ (A : Fr) (H : Hp), AWP _ _ _ _ A H → _) => hK; clear hK)); (repeat (rename (Fr → Hp → Prop) => K; clear K))) | skip)
  · refine ⟨(k - 1, gs ++ [w], d2), ⟨by simp; omega, gs_add hgs ⟨by omega, fun x hx => by have := hw.2 x hx; unfold r64; omega⟩⟩, by dsimp only; omega, Sub.toFF (fun x => x = 901) (Fr.fit_cons rfl (.ofEq (by dsimp only; congr 3; omega)) (Fr.fit_cons rfl (.ofEq (by simp)) (Fr.fit_cons rfl (.refl _) (Fr.fit_cons rfl (.refl _) (Fr.fit_nil _))))) (leF_upd rfl ⟨by simp, fun i hi => ?_⟩ (leF_upd rfl (.refl _ _ _) leF_emp (by omega)) (by omega))⟩
    refine app_fit (g := w) (h := 901) gs ?_ ?_ ?_ i (by simpa using hi) <;> rfl
  · refine awp_loop (ι := Nat × List Int) (fun q => [(8, .v (.int .i64 ((q.1 : Nat)))), (7, .own 20 0 1 N), (6, .v (.int .i64 ((k : Nat)))), (5, .own 11 0 1 gs.length), (0, .ref 1000000 0), (1, .v (.int .i64 (N)))]) (fun q => ((Hp.emp.upd 1000000 (.cells 3 (dF .i64 d'))).upd 11 (.cells gs.length (cM ints [] gs))).upd 20 (.cells N (cM iv 0 q.2))) (fun q => q.1 ≤ N ∧ q.2.length = N ∧ ∀ x ∈ q.2, r64 x) (fun q => N - q.1) (0, marks 0 N) ⟨Nat.zero_le _, hml, hmr⟩ (Sub.toL (by simp only [go_sem] <;> first | trivial | (simp only [Option.some.injEq, AV.v.injEq, AV.own.injEq, AV.list.injEq, Value.int.injEq, Value.bool.injEq, true_and, and_true]; first | omega | (simp; done)) | (simp; done) | (simp; omega)) (by (repeat' (first | exact Hp.le_emp _ | exact Hp.le_refl _ | refine Hp.le_upd ?_ ?_)); all_goals (first | rfl | (simp only [go_sem]; first | rfl | (refine cellsE ?_ ?_ <;> (simp)) | (simp))))) ?_
    rintro ⟨i, xs⟩ ⟨hi, hxl, hxs⟩
    dsimp only at hi hxl hxs ⊢
    repeat' (first | refine awp_seqK fun K hK => ?_ | (refine awp_regionK 74904233904115 rfl ?_; simp only [List.map_cons, List.map_nil]; simp (maxSteps := 1000000) (dsimp := false) (implicitDefEqProofs := false) (disch := omega) only [wrap64, go_sem, hxl]) | (refine awp_regionQK 74904233904115 (by kernel_rfl) (by kernel_rfl) (by kernel_rfl) ?_; simp only [List.map_cons, List.map_nil]; simp (maxSteps := 1000000) (dsimp := false) (implicitDefEqProofs := false) (disch := omega) only [wrap64, go_sem, hxl]) | refine awp_block ?_ | (refine awp_skip ?_; simp only [go_sem, hxl]) | (refine awp_exit ?_; simp only [go_sem, hxl]) | (refine awp_ret ?_; try simp only [go_sem, hxl]) | (refine awp_condP rfl ?_; try simp only [go_sem, hxl]) | (refine BrP.mk (fun h => ?_) (fun h => ?_) <;> try simp (dsimp := false) (disch := omega) only [wrap64]) | (refine Br.mk (fun h => ?_) (fun h => ?_) <;> try simp (dsimp := false) (disch := omega) only [wrap64]) | refine Ob.mk (by first | omega | (intro _ _; rfl) | trivial | (intros; trivial) | assumption | (intro i hi; have h0 : i = 0 := (by omega); subst h0; first | rfl | trivial) | (intro i hi; have h0 : i = 0 ∨ i = 1 := (by omega); rcases h0 with rfl | rfl <;> rfl) | (intro i hi; have h0 : i = 0 ∨ i = 1 ∨ i = 2 := (by omega); rcases h0 with rfl | rfl | rfl <;> rfl)) ?_ | apply_assumption -exfalso -symm)
    all_goals (first | (show endQ _ _ _ _ _ _ _; (repeat (rename (∀ (A : Fr) (H : Hp), AWP _ _ _ _ A H → _) => hK; clear hK)); (repeat (rename (Fr → Hp → Prop) => K; clear K))) | (show Exists _; (repeat (rename (∀ (A : Fr) (H : Hp), AWP _ _ _ _ A H → _) => hK; clear hK)); (repeat (rename (Fr → Hp → Prop) => K; clear K))) | skip)
    · refine ⟨(i + 1, xs.set i (((i : Int) + 1).tmod N)), ⟨by dsimp only; omega, by simp [hxl], fun x hx => ?_⟩, by dsimp only; omega, Sub.toL (by simp only [go_sem] <;> first | trivial | (simp only [Option.some.injEq, AV.v.injEq, AV.own.injEq, AV.list.injEq, Value.int.injEq, Value.bool.injEq, true_and, and_true]; first | omega | (simp; done)) | (simp; done) | (simp; omega)) (by (repeat' (first | exact Hp.le_emp _ | exact Hp.le_refl _ | refine Hp.le_upd ?_ ?_)); all_goals (first | rfl | (simp only [go_sem]; first | rfl | (refine cellsE ?_ ?_ <;> (simp)) | (simp))))⟩
      rcases List.mem_or_eq_of_mem_set hx with h | rfl
      · exact hxs x h
      · have := tmod_in (x := (i : Int) + 1) (n := N) (by omega) (by omega); unfold r64; omega
    · refine ⟨(k - 1, gs ++ [xs], d'), ⟨by simp; omega, gs_add hgs ⟨by omega, hxs⟩⟩, by dsimp only; omega, Sub.toFF (fun x => x = 20) (Fr.fit_cons rfl (.ofEq (by dsimp only; congr 3; omega)) (Fr.fit_cons rfl (.ofEq (by simp)) (Fr.fit_cons rfl (.refl _) (Fr.fit_cons rfl (.refl _) (Fr.fit_nil _))))) (leF_upd rfl ⟨by simp, fun i hi => ?_⟩ (leF_upd rfl (.refl _ _ _) leF_emp (by omega)) (by omega))⟩
      refine app_fit (g := xs) (h := 20) gs ?_ ?_ hxl.symm i (by simpa using hi) <;> rfl
  · rename_i v1 hv1
    refine ⟨(k - 1, gs ++ [((marks 0 N).set v1.toNat v).set v.toNat v1], d'), ⟨by simp; omega, gs_add hgs ⟨by simp; omega, fun x hx => ?_⟩⟩, by dsimp only; omega, Sub.toFF (fun x => x = 20) (Fr.fit_cons rfl (.ofEq (by dsimp only; congr 3; omega)) (Fr.fit_cons rfl (.ofEq (by simp)) (Fr.fit_cons rfl (.refl _) (Fr.fit_cons rfl (.refl _) (Fr.fit_nil _))))) (leF_upd rfl ⟨by simp, fun i hi => ?_⟩ (leF_upd rfl (.refl _ _ _) leF_emp (by omega)) (by omega))⟩
    · rcases List.mem_or_eq_of_mem_set hx with h | rfl
      · rcases List.mem_or_eq_of_mem_set h with h | rfl
        · exact hmr x h
        · unfold r64; omega
      · unfold r64; omega
    · refine app_fit (g := ((marks 0 N).set v1.toNat v).set v.toNat v1) (h := 20) gs ?_ ?_ ?_ i (by simpa using hi)
      · have q1 := setF_iv (marks 0 N) v1.toNat v (by omega)
        have q2 := setF_iv ((marks 0 N).set v1.toNat v) v.toNat v1 (by rw [List.length_set]; omega)
        rw [← q2, ← q1]; rfl
      · rfl
      · rw [List.length_set, List.length_set, hml]
  · exact end_DI (d := d1) (xs := gs) rfl rfl rfl rfl rfl (fun _ _ => rfl) rfl (by decide) (by decide) (fun _ => trivial) ⟨by omega, hgs⟩
theorem fits_IIa {H : Hp} {D : Nat → Prop} {h : Nat} {gs : List (List Int)} {g : List Int} (hH : H h = some (.cells (gs.length + 1) (apF gs.length (cM ints [] gs) (setF (zF [.slice none 0 0]) 0 (ints g))))) (hD : D h) : Fits H D (.own h 0 1 (gs.length + 1)) (intss (gs ++ [g])) := by
  show Fits H D (.own h 0 1 (gs.length + 1)) (.list false 1 (gs ++ [g]).length (cM ints [] (gs ++ [g])))
  rw [List.length_append]
  refine .own hH hD (by omega) (fun i hi => trivial) fun i hi => .ofEq ?_
  rw [Nat.zero_add]
  exact ap_ints gs g i (by simpa using hi)
theorem fits_II0 {H : Hp} {D : Nat → Prop} {h : Nat} {f : Nat → AV} (hH : H h = some (.cells 0 f)) (hD : D h) : Fits H D (.own h 0 1 0) (intss []) :=
  .own hH hD (by omega) (fun i hi => trivial) fun i hi => absurd hi (by simp)
end Go.Proofs.Ytngpacdhpblpbaa
end
/- What words do: their evaluation, both texts; inverses and free reductions. -/
section
namespace Go.Proofs.Ytngpacdhpblpbaa
open Go.Av
set_option linter.unusedSimpArgs false
set_option linter.unusedVariables false
attribute [local irreducible] AWP CallG Ob Br BrP Go.Av.Sub endQ AOps OpV AC thenA blkA opsVC opVC withA withArgs opsQ opQ CallQ withA2 withArgs2
open Go.Pm (Pm comp invp idn img)
open Go.Wd (fr frS)
section
variable {n : Nat} {g : List (List Int)}
theorem fold_pm (hg : gensP n g) : ∀ (w : List Int) (P : List Int), (∀ x ∈ w, inL g x) → Pm n P → Pm n (w.foldl (fun p l => comp p (letP g l)) P) ∧ w.foldl (fun p l => comp p (letP g l)) P = comp P (evalP n g w)
  | [], P, _, hP => ⟨hP, (hP.comp_idn).symm⟩
  | l :: w, P, hw, hP => by
    have hl := letP_pm hg (hw l (List.mem_cons_self ..))
    obtain ⟨h1, h2⟩ := fold_pm hg w (comp P (letP g l)) (fun x hx => hw x (List.mem_cons_of_mem _ hx)) (hP.comp hl)
    obtain ⟨h3, h4⟩ := fold_pm hg w (comp (idn n) (letP g l)) (fun x hx => hw x (List.mem_cons_of_mem _ hx)) ((Go.Pm.Pm.idn n).comp hl)
    obtain ⟨h5, h6⟩ := fold_pm hg w (idn n) (fun x hx => hw x (List.mem_cons_of_mem _ hx)) (Go.Pm.Pm.idn n)
    have he : Pm n (evalP n g w) := h5
    refine ⟨h1, ?_⟩
    have e : evalP n g (l :: w) = comp (comp (idn n) (letP g l)) (evalP n g w) := h4
    rw [e, hl.idn_comp]
    show w.foldl _ (comp P (letP g l)) = _
    rw [h2, hP.assoc hl he]
theorem evalM_pm (hg : gensP n g) {w : List Int} (hw : ∀ x ∈ w, inL g x) : Pm n (evalP n g w) := (fold_pm hg w (idn n) hw (Go.Pm.Pm.idn n)).1
theorem evalP_app (hg : gensP n g) {a b : List Int} (ha : ∀ x ∈ a, inL g x) (hb : ∀ x ∈ b, inL g x) : evalP n g (a ++ b) = comp (evalP n g a) (evalP n g b) := by
  have := (fold_pm hg b (evalP n g a) hb (evalM_pm hg ha)).2
  rw [← this]
  unfold evalP
  rw [List.foldl_append]
theorem evalP_one (hg : gensP n g) {l : Int} (hl : inL g l) : evalP n g [l] = letP g l := (letP_pm hg hl).idn_comp
theorem inL_neg {l : Int} (h : inL g l) : inL g (-l) := by unfold inL at *; omega
theorem letP_neg (hg : gensP n g) {l : Int} (hl : inL g l) : letP g (-l) = invp (letP g l) := by
  have h1 := hl
  unfold inL at h1
  unfold letP
  by_cases h : 0 < l
  · rw [if_neg (by omega), if_pos h, show - -l - 1 = l - 1 by omega]
  · rw [if_pos (by omega), if_neg h]
    have := hg.2.2 (-l - 1).toNat (by omega)
    exact this.inv_inv.symm
theorem evalP_inv (hg : gensP n g) : ∀ (w : List Int), (∀ x ∈ w, inL g x) → evalP n g (inv w) = invp (evalP n g w)
  | [], _ => (Go.Pm.Pm.inv_idn n).symm
  | l :: w, hw => by
    have hl := hw l (List.mem_cons_self ..)
    have hw' : ∀ x ∈ w, inL g x := fun x hx => hw x (List.mem_cons_of_mem _ hx)
    have ih := evalP_inv hg w hw'
    have hi : ∀ x ∈ inv w, inL g x := fun x hx => by
      simp only [inv, List.mem_reverse, List.mem_map] at hx
      obtain ⟨y, hy, rfl⟩ := hx
      exact inL_neg (hw' y hy)
    have e1 : inv (l :: w) = inv w ++ [-l] := by simp [inv]
    have hn : ∀ x ∈ [-l], inL g x := fun x hx => by rw [List.mem_singleton.1 hx]; exact inL_neg hl
    have hs : ∀ x ∈ [l], inL g x := fun x hx => by rw [List.mem_singleton.1 hx]; exact hl
    have pw := evalM_pm hg hw'
    have pl := letP_pm hg hl
    rw [e1, evalP_app hg hi hn, ih, evalP_one hg (inL_neg hl), letP_neg hg hl, show l :: w = [l] ++ w from rfl, evalP_app hg hs hw', evalP_one hg hl]
    refine Pm.inv_of_comp (pw.inv.comp pl.inv) (pl.comp pw) ?_
    rw [pw.inv.assoc pl.inv (pl.comp pw), ← pl.inv.assoc pl pw, pl.inv_comp, pw.idn_comp, pw.inv_comp]
end
theorem end_T2 {P : Program} {N : Cx} {A : Fr} {H : Hp} {fn : Func} {t u : Tmp} {a b a' b' : AV} (hr : fn.results.toList = [.tmp t, .tmp u]) (htu : t ≠ u) (hA : A.get t = some a) (hB : A.get u = some b) (hf : Fits H (fun _ => True) a a') (hf' : Fits H (fun _ => True) b b') : endQ P N fn (retV (.tup 2 (vecF [a', b']))) .ret A H :=
  end_tup2 (H' := Hp.emp) hr htu (Sub.toFF (fun _ => True) (Fr.fit_cons hA hf (Fr.fit_cons hB hf' (Fr.fit_nil _))) leF_emp) ⟨rfl, rfl⟩
end Go.Proofs.Ytngpacdhpblpbaa
end
/- Words of groups that are drawn; Compose and Inverse. -/
section
namespace Go.Proofs.Ytngpacdhpblpbaa
open Go.Av
set_option linter.unusedSimpArgs false
set_option linter.unusedVariables false
attribute [local irreducible] AWP CallG Ob Br BrP Go.Av.Sub endQ AOps OpV AC thenA blkA opsVC opVC withA withArgs opsQ opQ CallQ withA2 withArgs2
open Go.Pm (Pm comp invp idn img)
open Go.Wd (fr frS)
end Go.Proofs.Ytngpacdhpblpbaa
end
