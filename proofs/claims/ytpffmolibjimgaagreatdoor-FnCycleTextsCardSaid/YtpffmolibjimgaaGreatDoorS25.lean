import Derived.Test.YtpffmolibjimgaaGreatDoorS18
import Derived.Test.YtpffmolibjimgaaGreatDoorS24
import Derived.Test.YtpffmolibjimgaaGreatDoorS3
import Derived.Test.YtpffmolibjimgaaGreatDoorS16
/- Cycles and orders of permutations, both texts. -/
section
namespace Go.Proofs.YtpffmolibjimgaaGreatDoor
open Go.Av
set_option linter.unusedSimpArgs false
set_option linter.unusedVariables false
attribute [local irreducible] AWP CallG Ob Br BrP Go.Av.Sub endQ AOps OpV AC thenA blkA opsVC opVC withA withArgs opsQ opQ CallQ withA2 withArgs2
open Go.Pm (Pm comp invp idn img itr clen cyc isMn cycs lcmL ord)
theorem specCycleOf_ok (n : Nat) (p : List Int) (i : Nat) (hp : Pm n p) (hn : n ≤ 20) (hi : i < n) (d : Nat) : AC Tryz.prog 104 [ints p, .v (.int .i64 ((i : Nat)))] Hp.emp (fun _ => false) (retI d (cyc p i)) := by
  have hl := hp.1
  obtain ⟨hc1, hc2, hc3⟩ := Go.Pm.clen_ok hp hi
  have hc0 := Go.Pm.clen_pos p i
  have hg : ∀ k, p.getD (itr p i k) 0 = ((itr p i (k + 1) : Nat) : Int) := fun k => hp.get_eq (Go.Pm.itr_lt hp hi k)
  have hg0 : p.getD i 0 = ((itr p i 1 : Nat) : Int) := hg 0
  have hb : ∀ k, itr p i k < n := fun k => Go.Pm.itr_lt hp hi k
  have hcl := Go.Pm.cyc_length p i
  have h1 : (cyc p i).take 1 = [(i : Int)] := by
    rw [List.take_succ_eq_append_getElem (by omega)]
    simp [cyc, itr]
  refine ac_of_awp (N := ⟨_, fun _ => false, fun _ _ => rfl, true⟩) Tryz.func104 rfl (by kernel_rfl) Tryz.ntmps104 (by simp) ?_
  simp only [argsFr, List.zipIdx_cons, List.zipIdx_nil, go_sem]
  repeat' (first | refine awp_seqK fun K hK => ?_ | (refine awp_regionK 32883 rfl ?_; simp only [List.map_cons, List.map_nil]; simp (maxSteps := 1000000) (dsimp := false) (implicitDefEqProofs := false) (disch := omega) only [wrap64, go_sem, hg0]) | (refine awp_regionQK 32883 (by kernel_rfl) (by kernel_rfl) (by kernel_rfl) ?_; simp only [List.map_cons, List.map_nil]; simp (maxSteps := 1000000) (dsimp := false) (implicitDefEqProofs := false) (disch := omega) only [wrap64, go_sem, hg0]) | refine awp_block ?_ | (refine awp_skip ?_; simp only [go_sem, hg0]) | (refine awp_exit ?_; simp only [go_sem, hg0]) | (refine awp_ret ?_; try simp only [go_sem, hg0]) | (refine awp_condP rfl ?_; try simp only [go_sem, hg0]) | (refine BrP.mk (fun h => ?_) (fun h => ?_) <;> try simp (dsimp := false) (disch := omega) only [wrap64]) | (refine Br.mk (fun h => ?_) (fun h => ?_) <;> try simp (dsimp := false) (disch := omega) only [wrap64]) | refine Ob.mk (by first | omega | (intro _ _; rfl) | trivial | (intros; trivial) | assumption | (intro i hi; have h0 : i = 0 := (by omega); subst h0; first | rfl | trivial) | (intro i hi; have h0 : i = 0 ∨ i = 1 := (by omega); rcases h0 with rfl | rfl <;> rfl) | (intro i hi; have h0 : i = 0 ∨ i = 1 ∨ i = 2 := (by omega); rcases h0 with rfl | rfl | rfl <;> rfl)) ?_ | apply_assumption -exfalso -symm)
  all_goals (first | (show endQ _ _ _ _ _ _ _; (repeat (rename (∀ (A : Fr) (H : Hp), AWP _ _ _ _ A H → _) => hK; clear hK)); (repeat (rename (Fr → Hp → Prop) => K; clear K))) | (show Exists _; (repeat (rename (∀ (A : Fr) (H : Hp), AWP _ _ _ _ A H → _) => hK; clear hK)); (repeat (rename (Fr → Hp → Prop) => K; clear K))) | skip)
  refine awp_loop (ι := Nat) (fun k => [(6, .v (.int .i64 ((itr p i k : Nat)))), (5, .own 8 0 1 k), (0, .list false 1 (p).length (cM iv 0 (p))), (1, .v (.int .i64 ((i : Nat))))]) (fun k => Hp.emp.upd 8 (.cells k (cM iv 0 ((cyc p i).take k)))) (fun k => 1 ≤ k ∧ k ≤ clen p i) (fun k => clen p i - k) 1 ?_ (Sub.toL (by simp only [go_sem] <;> first | trivial | (simp only [Option.some.injEq, AV.v.injEq, AV.own.injEq, AV.list.injEq, Value.int.injEq, Value.bool.injEq, true_and, and_true]; first | omega | (simp [h1]; done)) | (simp [h1]; done) | (simp [h1]; omega)) (by (repeat' (first | exact Hp.le_emp _ | exact Hp.le_refl _ | refine Hp.le_upd ?_ ?_)); all_goals (first | rfl | (simp only [go_sem]; first | rfl | (refine cellsE ?_ ?_ <;> (simp [h1])) | (simp [h1]))))) ?_
  · exact ⟨Nat.le_refl _, hc0⟩
  intro k hk
  have hgk := hg k
  have hbk := hb k
  have htl : ((cyc p i).take k).length = k := by rw [List.length_take]; omega
  repeat' (first | refine awp_seqK fun K hK => ?_ | (refine awp_regionK 32883 rfl ?_; simp only [List.map_cons, List.map_nil]; simp (maxSteps := 1000000) (dsimp := false) (implicitDefEqProofs := false) (disch := omega) only [wrap64, go_sem, hgk]) | (refine awp_regionQK 32883 (by kernel_rfl) (by kernel_rfl) (by kernel_rfl) ?_; simp only [List.map_cons, List.map_nil]; simp (maxSteps := 1000000) (dsimp := false) (implicitDefEqProofs := false) (disch := omega) only [wrap64, go_sem, hgk]) | refine awp_block ?_ | (refine awp_skip ?_; simp only [go_sem, hgk]) | (refine awp_exit ?_; simp only [go_sem, hgk]) | (refine awp_ret ?_; try simp only [go_sem, hgk]) | (refine awp_condP rfl ?_; try simp only [go_sem, hgk]) | (refine BrP.mk (fun h => ?_) (fun h => ?_) <;> try simp (dsimp := false) (disch := omega) only [wrap64]) | (refine Br.mk (fun h => ?_) (fun h => ?_) <;> try simp (dsimp := false) (disch := omega) only [wrap64]) | refine Ob.mk (by first | omega | (intro _ _; rfl) | trivial | (intros; trivial) | assumption | (intro i hi; have h0 : i = 0 := (by omega); subst h0; first | rfl | trivial) | (intro i hi; have h0 : i = 0 ∨ i = 1 := (by omega); rcases h0 with rfl | rfl <;> rfl) | (intro i hi; have h0 : i = 0 ∨ i = 1 ∨ i = 2 := (by omega); rcases h0 with rfl | rfl | rfl <;> rfl)) ?_ | apply_assumption -exfalso -symm)
  all_goals (first | (show endQ _ _ _ _ _ _ _; (repeat (rename (∀ (A : Fr) (H : Hp), AWP _ _ _ _ A H → _) => hK; clear hK)); (repeat (rename (Fr → Hp → Prop) => K; clear K))) | (show Exists _; (repeat (rename (∀ (A : Fr) (H : Hp), AWP _ _ _ _ A H → _) => hK; clear hK)); (repeat (rename (Fr → Hp → Prop) => K; clear K))) | skip)
  · have e : k = clen p i := by
      rcases Nat.lt_or_ge k (clen p i) with h | h
      · exact absurd (by omega : itr p i k = i) (hc3 k (by omega) h)
      · omega
    subst e
    refine end_retI' rfl rfl rfl ?_ htl.symm rfl
    rw [← hcl, List.take_length]
  · have hlt : k < clen p i := by
      rcases Nat.lt_or_ge k (clen p i) with h | h
      · exact h
      · have e : k = clen p i := by omega
        exact absurd (by rw [e]; exact hc2) (show ¬ itr p i k = i by omega)
    have e1 : (cyc p i).take (k + 1) = (cyc p i).take k ++ [((itr p i k : Nat) : Int)] := by
      rw [List.take_succ_eq_append_getElem (by omega)]
      simp [cyc]
    have hap := apF_cM iv 0 ((cyc p i).take k) [((itr p i k : Nat) : Int)]
    rw [htl, ← e1] at hap
    exact ⟨k + 1, by omega, by omega, Sub.toL (by simp only [go_sem] <;> first | trivial | (simp only [Option.some.injEq, AV.v.injEq, AV.own.injEq, AV.list.injEq, Value.int.injEq, Value.bool.injEq, true_and, and_true]; first | omega | (simp; done)) | (simp; done) | (simp; omega)) (by (repeat' (first | exact Hp.le_emp _ | exact Hp.le_refl _ | refine Hp.le_upd ?_ ?_)); all_goals (first | rfl | (simp only [go_sem]; first | rfl | (refine cellsE ?_ ?_ <;> (simp [hap])) | (simp [hap]))))⟩
end Go.Proofs.YtpffmolibjimgaaGreatDoor
end
/- The reference's sources of choices: how they lie in memory, and what they answer. -/
section
namespace Go.Proofs.YtpffmolibjimgaaGreatDoor
open Go.Av
set_option linter.unusedSimpArgs false
set_option linter.unusedVariables false
attribute [local irreducible] AWP CallG Ob Br BrP Go.Av.Sub endQ AOps OpV AC thenA blkA opsVC opVC withA withArgs opsQ opQ CallQ withA2 withArgs2
/-- A number of the machine. -/
def r64 (x : Int) : Prop := -9223372036854775808 ≤ x ∧ x ≤ 9223372036854775807
/-- The bits that a mask keeps. -/
def andI (m c : Int) : Int := IntKind.i64.wrap ((BitVec.ofInt IntKind.i64.bits m &&& BitVec.ofInt IntKind.i64.bits c).toNat : Int)
theorem andI_ok (m c : Int) (hc : 0 ≤ c ∧ c ≤ 4294967295) : 0 ≤ andI m c ∧ andI m c ≤ c := by
  have e : (BitVec.ofInt IntKind.i64.bits c).toNat = c.toNat := by
    rw [BitVec.toNat_ofInt]
    show (c % (2 ^ 64 : Nat)).toNat = c.toNat
    have : c % ((2 ^ 64 : Nat) : Int) = c := Int.emod_eq_of_lt hc.1 (by show c < 18446744073709551616; omega)
    rw [this]
  have h : (BitVec.ofInt IntKind.i64.bits m &&& BitVec.ofInt IntKind.i64.bits c).toNat ≤ c.toNat := by
    rw [BitVec.toNat_and, e]
    exact Nat.and_le_right
  unfold andI
  rw [wrap64 (by omega)]
  omega
theorem nextByte_ok (d : Dc) : AC Tryz.prog 99 [.ref 1000000 0] (DH .i64 d) pM (postD .i64 fun r => ∃ v : Int, (0 ≤ v ∧ v ≤ 255) ∧ r = .v (.int .i64 (v))) := by
  have hb := d.hx d.i
  have e1 : IntKind.i64.wrap (d.xs.getD d.i 0) = d.xs.getD d.i 0 := wrap64 (by omega)
  refine ac_of_awp (N := ⟨_, pM, fun h hh => pM_low (Nat.lt_of_lt_of_le hh (by decide)), true⟩) Tryz.func99 rfl (by kernel_rfl) Tryz.ntmps99 (by simp) ?_
  simp only [argsFr, List.zipIdx_cons, List.zipIdx_nil, go_sem]
  unfold DH dF
  repeat' (first | refine awp_seqK fun K hK => ?_ | (refine awp_regionK 17179869197 rfl ?_; simp only [List.map_cons, List.map_nil]; simp (maxSteps := 1000000) (dsimp := false) (implicitDefEqProofs := false) (disch := omega) only [wrap64, go_sem, e1]) | (refine awp_regionQK 17179869197 (by kernel_rfl) (by kernel_rfl) (by kernel_rfl) ?_; simp only [List.map_cons, List.map_nil]; simp (maxSteps := 1000000) (dsimp := false) (implicitDefEqProofs := false) (disch := omega) only [wrap64, go_sem, e1]) | refine awp_block ?_ | (refine awp_skip ?_; simp only [go_sem, e1]) | (refine awp_exit ?_; simp only [go_sem, e1]) | (refine awp_ret ?_; try simp only [go_sem, e1]) | (refine awp_condP rfl ?_; try simp only [go_sem, e1]) | (refine BrP.mk (fun h => ?_) (fun h => ?_) <;> try simp (dsimp := false) (disch := omega) only [wrap64]) | (refine Br.mk (fun h => ?_) (fun h => ?_) <;> try simp (dsimp := false) (disch := omega) only [wrap64]) | refine Ob.mk (by first | omega | (intro _ _; rfl) | trivial | (intros; trivial) | assumption | (intro i hi; have h0 : i = 0 := (by omega); subst h0; first | rfl | trivial) | (intro i hi; have h0 : i = 0 ∨ i = 1 := (by omega); rcases h0 with rfl | rfl <;> rfl) | (intro i hi; have h0 : i = 0 ∨ i = 1 ∨ i = 2 := (by omega); rcases h0 with rfl | rfl | rfl <;> rfl)) ?_ | apply_assumption -exfalso -symm)
  all_goals (first | (show endQ _ _ _ _ _ _ _; (repeat (rename (∀ (A : Fr) (H : Hp), AWP _ _ _ _ A H → _) => hK; clear hK)); (repeat (rename (Fr → Hp → Prop) => K; clear K))) | (show Exists _; (repeat (rename (∀ (A : Fr) (H : Hp), AWP _ _ _ _ A H → _) => hK; clear hK)); (repeat (rename (Fr → Hp → Prop) => K; clear K))) | skip)
  · have hl := d.hl
    rw [wrap64 (x := (d.i : Int) + 1) (by omega)]
    refine end_postS (H' := DH .i64 ⟨d.xs, d.i + 1, IntKind.i64.wrap (IntKind.i64.wrap (d.h * 6364136223846793005) + 1442695040888963407), by omega, d.hx, d.hl⟩) rfl (Sub.toLF (by simp only [go_sem] <;> first | trivial | (simp only [Option.some.injEq, AV.v.injEq, AV.own.injEq, AV.list.injEq, Value.int.injEq, Value.bool.injEq, true_and, and_true]; first | omega | (simp; done)) | (simp; done) | (simp; omega)) (leF_upd rfl (bfE rfl (c3 rfl rfl rfl)) leF_emp id)) ⟨_, ⟨_, andI_ok _ 255 (by omega), rfl⟩, rfl⟩
  · refine end_postS (H' := DH .i64 ⟨d.xs, d.i, IntKind.i64.wrap (IntKind.i64.wrap (d.h * 6364136223846793005) + 1442695040888963407), d.hi, d.hx, d.hl⟩) rfl (Sub.toLF (by simp only [go_sem] <;> first | trivial | (simp only [Option.some.injEq, AV.v.injEq, AV.own.injEq, AV.list.injEq, Value.int.injEq, Value.bool.injEq, true_and, and_true]; first | omega | (simp; done)) | (simp; done) | (simp; omega)) (leF_upd rfl (bfE rfl (c3 rfl rfl rfl)) leF_emp id)) ⟨_, ⟨_, andI_ok _ 255 (by omega), rfl⟩, rfl⟩
/-- What `below` answers. -/
def belowQ (n v : Int) : Prop := (n ≤ 0 → v = 0) ∧ (0 < n → 0 ≤ v ∧ v < n)
theorem sBelow_ok (d : Dc) (n : Int) (hn : r64 n) : AC Tryz.prog 71 [.ref 1000000 0, .v (.int .i64 (n))] (DH .i64 d) pM (postD .i64 fun r => ∃ v : Int, belowQ n v ∧ r = .v (.int .i64 (v))) := by
  unfold r64 at hn
  refine ac_of_awp (N := ⟨_, pM, fun h hh => pM_low (Nat.lt_of_lt_of_le hh (by decide)), true⟩) Tryz.func71 rfl (by kernel_rfl) Tryz.ntmps71 (by simp) ?_
  simp only [argsFr, List.zipIdx_cons, List.zipIdx_nil, go_sem]
  unfold DH
  repeat' (first | ((first | refine atF (f := 99) ?_ | refine atQ (f := 99) ?_); (refine callD (by rfl) (nextByte_ok _) (by rintro _ ⟨v, _, rfl⟩ _; rfl) (fun r d' hq => ?_); obtain ⟨v, hv, rfl⟩ := hq) <;> simp (maxSteps := 1000000) (dsimp := false) (implicitDefEqProofs := false) (disch := omega) only [wrap64, go_sem]) | refine awp_seqK fun K hK => ?_ | (refine awp_regionK 5619 rfl ?_; simp only [List.map_cons, List.map_nil]; simp (maxSteps := 1000000) (dsimp := false) (implicitDefEqProofs := false) (disch := omega) only [wrap64, go_sem]) | (refine awp_regionQK 5619 (by kernel_rfl) (by kernel_rfl) (by kernel_rfl) ?_; simp only [List.map_cons, List.map_nil]; simp (maxSteps := 1000000) (dsimp := false) (implicitDefEqProofs := false) (disch := omega) only [wrap64, go_sem]) | refine awp_block ?_ | (refine awp_skip ?_; simp only [go_sem]) | (refine awp_exit ?_; simp only [go_sem]) | (refine awp_ret ?_; try simp only [go_sem]) | (refine awp_condP rfl ?_; try simp only [go_sem]) | (refine BrP.mk (fun h => ?_) (fun h => ?_) <;> try simp (dsimp := false) (disch := omega) only [wrap64]) | (refine Br.mk (fun h => ?_) (fun h => ?_) <;> try simp (dsimp := false) (disch := omega) only [wrap64]) | refine Ob.mk (by first | omega | (intro _ _; rfl) | trivial | (intros; trivial) | assumption | (intro i hi; have h0 : i = 0 := (by omega); subst h0; first | rfl | trivial) | (intro i hi; have h0 : i = 0 ∨ i = 1 := (by omega); rcases h0 with rfl | rfl <;> rfl) | (intro i hi; have h0 : i = 0 ∨ i = 1 ∨ i = 2 := (by omega); rcases h0 with rfl | rfl | rfl <;> rfl)) ?_ | apply_assumption -exfalso -symm)
  all_goals (first | (show endQ _ _ _ _ _ _ _; (repeat (rename (∀ (A : Fr) (H : Hp), AWP _ _ _ _ A H → _) => hK; clear hK)); (repeat (rename (Fr → Hp → Prop) => K; clear K))) | (show Exists _; (repeat (rename (∀ (A : Fr) (H : Hp), AWP _ _ _ _ A H → _) => hK; clear hK)); (repeat (rename (Fr → Hp → Prop) => K; clear K))) | skip)
  · exact end_post rfl rfl (Hp.le_refl _) ⟨d, ⟨0, ⟨fun _ => rfl, fun h => by omega⟩, rfl⟩, rfl⟩
  · exact end_post rfl rfl (Hp.le_refl _) ⟨_, ⟨_, ⟨fun h => by omega, fun h => tmod_in (by omega) h⟩, rfl⟩, rfl⟩
  · exact end_post rfl rfl (Hp.le_refl _) ⟨_, ⟨_, ⟨fun h => by omega, fun h => tmod_in (by omega) h⟩, rfl⟩, rfl⟩
theorem postD_mono {k : IntKind} {Q Q' : AV → Prop} (h : ∀ r, Q r → Q' r) (r : AV) (H : Hp) (hp : postD k Q r H) : postD k Q' r H := let ⟨d, a, b⟩ := hp; ⟨d, h r a, b⟩
theorem sBelowP_ok (d : Dc) (n : Int) (hn : 0 < n ∧ n ≤ 9223372036854775807) : AC Tryz.prog 71 [.ref 1000000 0, .v (.int .i64 (n))] (DH .i64 d) pM (postD .i64 fun r => ∃ v : Int, (0 ≤ v ∧ v < n) ∧ r = .v (.int .i64 (v))) :=
  (sBelow_ok d n (by unfold r64; omega)).mono (postD_mono fun r ⟨v, a, b⟩ => ⟨v, a.2 hn.1, b⟩)
theorem oneIn_ok (d : Dc) (n : Int) (hn : 0 < n ∧ n ≤ 9223372036854775807) : AC Tryz.prog 52 [.ref 1000000 0, .v (.int .i64 (n))] (DH .i64 d) pM (postD .i64 fun r => ∃ v : Bool, True ∧ r = .v (.bool (v))) := by
  refine ac_of_awp (N := ⟨_, pM, fun h hh => pM_low (Nat.lt_of_lt_of_le hh (by decide)), true⟩) Tryz.func52 rfl (by kernel_rfl) Tryz.ntmps52 (by simp) ?_
  simp only [argsFr, List.zipIdx_cons, List.zipIdx_nil, go_sem]
  unfold DH
  repeat' (first | ((first | refine atF (f := 71) ?_ | refine atQ (f := 71) ?_); (refine callD (by rfl) (sBelowP_ok _ _ (by omega)) (by rintro _ ⟨v, _, rfl⟩ _; rfl) (fun r d' hq => ?_); obtain ⟨v, hv, rfl⟩ := hq) <;> simp (maxSteps := 1000000) (dsimp := false) (implicitDefEqProofs := false) (disch := omega) only [wrap64, go_sem]) | refine awp_seqK fun K hK => ?_ | (refine awp_regionK 19 rfl ?_; simp only [List.map_cons, List.map_nil]; simp (maxSteps := 1000000) (dsimp := false) (implicitDefEqProofs := false) (disch := omega) only [wrap64, go_sem]) | (refine awp_regionQK 19 (by kernel_rfl) (by kernel_rfl) (by kernel_rfl) ?_; simp only [List.map_cons, List.map_nil]; simp (maxSteps := 1000000) (dsimp := false) (implicitDefEqProofs := false) (disch := omega) only [wrap64, go_sem]) | refine awp_block ?_ | (refine awp_skip ?_; simp only [go_sem]) | (refine awp_exit ?_; simp only [go_sem]) | (refine awp_ret ?_; try simp only [go_sem]) | (refine awp_condP rfl ?_; try simp only [go_sem]) | (refine BrP.mk (fun h => ?_) (fun h => ?_) <;> try simp (dsimp := false) (disch := omega) only [wrap64]) | (refine Br.mk (fun h => ?_) (fun h => ?_) <;> try simp (dsimp := false) (disch := omega) only [wrap64]) | refine Ob.mk (by first | omega | (intro _ _; rfl) | trivial | (intros; trivial) | assumption | (intro i hi; have h0 : i = 0 := (by omega); subst h0; first | rfl | trivial) | (intro i hi; have h0 : i = 0 ∨ i = 1 := (by omega); rcases h0 with rfl | rfl <;> rfl) | (intro i hi; have h0 : i = 0 ∨ i = 1 ∨ i = 2 := (by omega); rcases h0 with rfl | rfl | rfl <;> rfl)) ?_ | apply_assumption -exfalso -symm)
  all_goals (first | (show endQ _ _ _ _ _ _ _; (repeat (rename (∀ (A : Fr) (H : Hp), AWP _ _ _ _ A H → _) => hK; clear hK)); (repeat (rename (Fr → Hp → Prop) => K; clear K))) | (show Exists _; (repeat (rename (∀ (A : Fr) (H : Hp), AWP _ _ _ _ A H → _) => hK; clear hK)); (repeat (rename (Fr → Hp → Prop) => K; clear K))) | skip)
  exact end_post rfl rfl (Hp.le_refl _) ⟨_, ⟨_, rfl⟩, rfl⟩
theorem between_ok (d : Dc) (lo hi : Int) (hn : -1000000000000 ≤ lo ∧ lo ≤ hi ∧ hi ≤ 1000000000000) : AC Tryz.prog 72 [.ref 1000000 0, .v (.int .i64 (lo)), .v (.int .i64 (hi))] (DH .i64 d) pM (postD .i64 fun r => ∃ v : Int, (lo ≤ v ∧ v ≤ hi) ∧ r = .v (.int .i64 (v))) := by
  refine ac_of_awp (N := ⟨_, pM, fun h hh => pM_low (Nat.lt_of_lt_of_le hh (by decide)), true⟩) Tryz.func72 rfl (by kernel_rfl) Tryz.ntmps72 (by simp) ?_
  simp only [argsFr, List.zipIdx_cons, List.zipIdx_nil, go_sem]
  unfold DH
  repeat' (first | ((first | refine atF (f := 71) ?_ | refine atQ (f := 71) ?_); (refine callD (by rfl) (sBelowP_ok _ _ (by omega)) (by rintro _ ⟨v, _, rfl⟩ _; rfl) (fun r d' hq => ?_); obtain ⟨v, hv, rfl⟩ := hq) <;> simp (maxSteps := 1000000) (dsimp := false) (implicitDefEqProofs := false) (disch := omega) only [wrap64, go_sem]) | refine awp_seqK fun K hK => ?_ | (refine awp_regionK 71 rfl ?_; simp only [List.map_cons, List.map_nil]; simp (maxSteps := 1000000) (dsimp := false) (implicitDefEqProofs := false) (disch := omega) only [wrap64, go_sem]) | (refine awp_regionQK 71 (by kernel_rfl) (by kernel_rfl) (by kernel_rfl) ?_; simp only [List.map_cons, List.map_nil]; simp (maxSteps := 1000000) (dsimp := false) (implicitDefEqProofs := false) (disch := omega) only [wrap64, go_sem]) | refine awp_block ?_ | (refine awp_skip ?_; simp only [go_sem]) | (refine awp_exit ?_; simp only [go_sem]) | (refine awp_ret ?_; try simp only [go_sem]) | (refine awp_condP rfl ?_; try simp only [go_sem]) | (refine BrP.mk (fun h => ?_) (fun h => ?_) <;> try simp (dsimp := false) (disch := omega) only [wrap64]) | (refine Br.mk (fun h => ?_) (fun h => ?_) <;> try simp (dsimp := false) (disch := omega) only [wrap64]) | refine Ob.mk (by first | omega | (intro _ _; rfl) | trivial | (intros; trivial) | assumption | (intro i hi; have h0 : i = 0 := (by omega); subst h0; first | rfl | trivial) | (intro i hi; have h0 : i = 0 ∨ i = 1 := (by omega); rcases h0 with rfl | rfl <;> rfl) | (intro i hi; have h0 : i = 0 ∨ i = 1 ∨ i = 2 := (by omega); rcases h0 with rfl | rfl | rfl <;> rfl)) ?_ | apply_assumption -exfalso -symm)
  all_goals (first | (show endQ _ _ _ _ _ _ _; (repeat (rename (∀ (A : Fr) (H : Hp), AWP _ _ _ _ A H → _) => hK; clear hK)); (repeat (rename (Fr → Hp → Prop) => K; clear K))) | (show Exists _; (repeat (rename (∀ (A : Fr) (H : Hp), AWP _ _ _ _ A H → _) => hK; clear hK)); (repeat (rename (Fr → Hp → Prop) => K; clear K))) | skip)
  exact end_post rfl rfl (Hp.le_refl _) ⟨_, ⟨_, by omega, rfl⟩, rfl⟩
theorem extremeInt_ok (d : Dc) : AC Tryz.prog 86 [.ref 1000000 0] (DH .i64 d) pM (postD .i64 fun r => ∃ v : Int, r64 v ∧ r = .v (.int .i64 (v))) := by
  refine ac_of_awp (N := ⟨_, pM, fun h hh => pM_low (Nat.lt_of_lt_of_le hh (by decide)), true⟩) Tryz.func86 rfl (by kernel_rfl) Tryz.ntmps86 (by simp) ?_
  simp only [argsFr, List.zipIdx_cons, List.zipIdx_nil, go_sem]
  unfold DH
  repeat' (first | ((first | refine atF (f := 71) ?_ | refine atQ (f := 71) ?_); (refine callD (by rfl) (sBelowP_ok _ _ (by omega)) (by rintro _ ⟨v, _, rfl⟩ _; rfl) (fun r d' hq => ?_); obtain ⟨v, hv, rfl⟩ := hq) <;> simp (maxSteps := 1000000) (dsimp := false) (implicitDefEqProofs := false) (disch := omega) only [wrap64, go_sem]) | refine awp_seqK fun K hK => ?_ | (refine awp_regionK 5 rfl ?_; simp only [List.map_cons, List.map_nil]; simp (maxSteps := 1000000) (dsimp := false) (implicitDefEqProofs := false) (disch := omega) only [wrap64, go_sem]) | (refine awp_regionQK 5 (by kernel_rfl) (by kernel_rfl) (by kernel_rfl) ?_; simp only [List.map_cons, List.map_nil]; simp (maxSteps := 1000000) (dsimp := false) (implicitDefEqProofs := false) (disch := omega) only [wrap64, go_sem]) | refine awp_block ?_ | (refine awp_skip ?_; simp only [go_sem]) | (refine awp_exit ?_; simp only [go_sem]) | (refine awp_ret ?_; try simp only [go_sem]) | (refine awp_condP rfl ?_; try simp only [go_sem]) | (refine BrP.mk (fun h => ?_) (fun h => ?_) <;> try simp (dsimp := false) (disch := omega) only [wrap64]) | (refine Br.mk (fun h => ?_) (fun h => ?_) <;> try simp (dsimp := false) (disch := omega) only [wrap64]) | refine Ob.mk (by first | omega | (intro _ _; rfl) | trivial | (intros; trivial) | assumption | (intro i hi; have h0 : i = 0 := (by omega); subst h0; first | rfl | trivial) | (intro i hi; have h0 : i = 0 ∨ i = 1 := (by omega); rcases h0 with rfl | rfl <;> rfl) | (intro i hi; have h0 : i = 0 ∨ i = 1 ∨ i = 2 := (by omega); rcases h0 with rfl | rfl | rfl <;> rfl)) ?_ | apply_assumption -exfalso -symm)
  all_goals (first | (show endQ _ _ _ _ _ _ _; (repeat (rename (∀ (A : Fr) (H : Hp), AWP _ _ _ _ A H → _) => hK; clear hK)); (repeat (rename (Fr → Hp → Prop) => K; clear K))) | (show Exists _; (repeat (rename (∀ (A : Fr) (H : Hp), AWP _ _ _ _ A H → _) => hK; clear hK)); (repeat (rename (Fr → Hp → Prop) => K; clear K))) | skip)
  have e : v = 0 ∨ v = 1 ∨ v = 2 ∨ v = 3 ∨ v = 4 ∨ v = 5 ∨ v = 6 ∨ v = 7 ∨ v = 8 ∨ v = 9 := by omega
  rcases e with rfl | rfl | rfl | rfl | rfl | rfl | rfl | rfl | rfl | rfl
  all_goals exact end_post rfl rfl (Hp.le_upd rfl (Hp.le_emp _)) ⟨d', ⟨_, by unfold r64; first | omega | decide, rfl⟩, rfl⟩
theorem newSource_ok (xs : List Int) (hx : ∀ j, 0 ≤ xs.getD j 0 ∧ xs.getD j 0 ≤ 255) (hl : xs.length ≤ 4096) : AC Tryz.prog 36 [bts xs] Hp.emp (fun _ => false) (postD .i64 fun r => r = .ref 1000000 0) := by
  refine ac_of_awp (N := ⟨_, fun _ => false, fun _ _ => rfl, true⟩) Tryz.func36 rfl (by kernel_rfl) Tryz.ntmps36 (by simp) ?_
  simp only [argsFr, List.zipIdx_cons, List.zipIdx_nil, go_sem]
  unfold bts
  repeat' (first | refine awp_seqK fun K hK => ?_ | (refine awp_regionK 2077 rfl ?_; simp only [List.map_cons, List.map_nil]; simp (maxSteps := 1000000) (dsimp := false) (implicitDefEqProofs := false) (disch := omega) only [wrap64, go_sem]) | (refine awp_regionQK 2077 (by kernel_rfl) (by kernel_rfl) (by kernel_rfl) ?_; simp only [List.map_cons, List.map_nil]; simp (maxSteps := 1000000) (dsimp := false) (implicitDefEqProofs := false) (disch := omega) only [wrap64, go_sem]) | refine awp_block ?_ | (refine awp_skip ?_; simp only [go_sem]) | (refine awp_exit ?_; simp only [go_sem]) | (refine awp_ret ?_; try simp only [go_sem]) | (refine awp_condP rfl ?_; try simp only [go_sem]) | (refine BrP.mk (fun h => ?_) (fun h => ?_) <;> try simp (dsimp := false) (disch := omega) only [wrap64]) | (refine Br.mk (fun h => ?_) (fun h => ?_) <;> try simp (dsimp := false) (disch := omega) only [wrap64]) | refine Ob.mk (by first | omega | (intro _ _; rfl) | trivial | (intros; trivial) | assumption | (intro i hi; have h0 : i = 0 := (by omega); subst h0; first | rfl | trivial) | (intro i hi; have h0 : i = 0 ∨ i = 1 := (by omega); rcases h0 with rfl | rfl <;> rfl) | (intro i hi; have h0 : i = 0 ∨ i = 1 ∨ i = 2 := (by omega); rcases h0 with rfl | rfl | rfl <;> rfl)) ?_ | apply_assumption -exfalso -symm)
  all_goals (first | (show endQ _ _ _ _ _ _ _; (repeat (rename (∀ (A : Fr) (H : Hp), AWP _ _ _ _ A H → _) => hK; clear hK)); (repeat (rename (Fr → Hp → Prop) => K; clear K))) | (show Exists _; (repeat (rename (∀ (A : Fr) (H : Hp), AWP _ _ _ _ A H → _) => hK; clear hK)); (repeat (rename (Fr → Hp → Prop) => K; clear K))) | skip)
  refine awp_loop (ι := Nat × Int) (fun k => [(4, .v (.int .i64 (k.1))), (3, .v (.int .i64 (k.2))), (0, bts xs)]) (fun k => Hp.emp) (fun k => k.1 ≤ xs.length ∧ 0 ≤ k.2 ∧ k.2 ≤ 1073741823) (fun k => xs.length - k.1) (0, 590033 + (xs.length : Int)) ⟨Nat.zero_le _, by dsimp only; omega, by dsimp only; omega⟩ (Sub.toL (by simp only [go_sem] <;> first | trivial | (simp only [Option.some.injEq, AV.v.injEq, AV.own.injEq, AV.list.injEq, Value.int.injEq, Value.bool.injEq, true_and, and_true]; first | omega | (simp; done)) | (simp; done) | (simp; omega)) (by (repeat' (first | exact Hp.le_emp _ | exact Hp.le_refl _ | refine Hp.le_upd ?_ ?_)); all_goals (first | rfl | (simp only [go_sem]; first | rfl | (refine cellsE ?_ ?_ <;> (simp)) | (simp))))) ?_
  rintro ⟨k, z⟩ hk
  dsimp only at hk ⊢
  have hxk := hx k
  have e1 : IntKind.i64.wrap (xs.getD k 0) = xs.getD k 0 := wrap64 (by omega)
  repeat' (first | refine awp_seqK fun K hK => ?_ | (refine awp_regionK 2077 rfl ?_; simp only [List.map_cons, List.map_nil]; simp (maxSteps := 1000000) (dsimp := false) (implicitDefEqProofs := false) (disch := omega) only [wrap64, go_sem, e1, List.getElem?_cons_zero, List.getElem?_cons_succ]) | (refine awp_regionQK 2077 (by kernel_rfl) (by kernel_rfl) (by kernel_rfl) ?_; simp only [List.map_cons, List.map_nil]; simp (maxSteps := 1000000) (dsimp := false) (implicitDefEqProofs := false) (disch := omega) only [wrap64, go_sem, e1, List.getElem?_cons_zero, List.getElem?_cons_succ]) | refine awp_block ?_ | (refine awp_skip ?_; simp only [go_sem, e1, List.getElem?_cons_zero, List.getElem?_cons_succ]) | (refine awp_exit ?_; simp only [go_sem, e1, List.getElem?_cons_zero, List.getElem?_cons_succ]) | (refine awp_ret ?_; try simp only [go_sem, e1, List.getElem?_cons_zero, List.getElem?_cons_succ]) | (refine awp_condP rfl ?_; try simp only [go_sem, e1, List.getElem?_cons_zero, List.getElem?_cons_succ]) | (refine BrP.mk (fun h => ?_) (fun h => ?_) <;> try simp (dsimp := false) (disch := omega) only [wrap64]) | (refine Br.mk (fun h => ?_) (fun h => ?_) <;> try simp (dsimp := false) (disch := omega) only [wrap64]) | refine Ob.mk (by first | omega | (intro _ _; rfl) | trivial | (intros; trivial) | assumption | (intro i hi; have h0 : i = 0 := (by omega); subst h0; first | rfl | trivial) | (intro i hi; have h0 : i = 0 ∨ i = 1 := (by omega); rcases h0 with rfl | rfl <;> rfl) | (intro i hi; have h0 : i = 0 ∨ i = 1 ∨ i = 2 := (by omega); rcases h0 with rfl | rfl | rfl <;> rfl)) ?_ | apply_assumption -exfalso -symm)
  all_goals (first | (show endQ _ _ _ _ _ _ _; (repeat (rename (∀ (A : Fr) (H : Hp), AWP _ _ _ _ A H → _) => hK; clear hK)); (repeat (rename (Fr → Hp → Prop) => K; clear K))) | (show Exists _; (repeat (rename (∀ (A : Fr) (H : Hp), AWP _ _ _ _ A H → _) => hK; clear hK)); (repeat (rename (Fr → Hp → Prop) => K; clear K))) | skip)
  · exact ⟨(k + 1, andI (z * 337 + xs.getD k 0 + 11) 1073741823), ⟨by dsimp only; omega, andI_ok _ _ (by omega)⟩, by dsimp only; omega, Sub.toL (by simp only [go_sem] <;> first | trivial | (simp only [Option.some.injEq, AV.v.injEq, AV.own.injEq, AV.list.injEq, Value.int.injEq, Value.bool.injEq, true_and, and_true]; first | omega | (simp; done)) | (simp; done) | (simp; omega)) (by (repeat' (first | exact Hp.le_emp _ | exact Hp.le_refl _ | refine Hp.le_upd ?_ ?_)); all_goals (first | rfl | (simp only [go_sem]; first | rfl | (refine cellsE ?_ ?_ <;> (simp)) | (simp))))⟩
  · refine end_postS (H' := DH .i64 ⟨xs, 0, z, Nat.zero_le _, hx, hl⟩) rfl (Sub.layM (fun h => if h = 1000000 then some 27 else none) rfl (lay_cons ⟨_, rfl, .ref rfl⟩ lay_nil) (layF_upd (g := 27) (n := 3) rfl rfl (fun i hi => ?_) layF_emp) ?_) ⟨_, rfl, rfl⟩
    · match i, hi with
      | 0, _ => exact .plain trivial
      | 1, _ => exact .plain trivial
      | 2, _ => exact .plain trivial
    · intro x y k hx hy h1 h2
      split at h1
      · split at h2
        · omega
        · cases h2
      · cases h1
end Go.Proofs.YtpffmolibjimgaaGreatDoor
end
section
namespace Go.Proofs.YtpffmolibjimgaaGreatDoor
open Go.Av
set_option linter.unusedSimpArgs false
set_option linter.unusedVariables false
attribute [local irreducible] AWP CallG Ob Br BrP Go.Av.Sub endQ AOps OpV AC thenA blkA opsVC opVC withA withArgs opsQ opQ CallQ withA2 withArgs2
open Go.Pm (Pm comp invp idn img)

theorem isSt.pm {p : Pz} {s : List Int} (h : isSt p s) : Pm p.n.toNat s := by
  have h1 := ((isPerm_pm s).1 h.2.2).2
  rwa [show s.length = p.n.toNat by have := h.2.1; omega] at h1
theorem specCopyInts_ok (xs : List Int) (hx : xs.length ≤ 1048576) (d : Nat) : AC Tryz.prog 98 [ints xs] Hp.emp (fun _ => false) (retI d xs) := by
  have e : apF 0 (cM iv 0 (List.replicate 0 (0 : Int))) (cM iv 0 xs) = cM iv 0 xs := by funext j; simp [apF]
  refine ac_of_awp (N := ⟨_, fun _ => false, fun _ _ => rfl, true⟩) Tryz.func98 rfl (by kernel_rfl) Tryz.ntmps98 (by simp) ?_
  simp only [argsFr, List.zipIdx_cons, List.zipIdx_nil, go_sem]
  repeat' (first | refine awp_seqK fun K hK => ?_ | (refine awp_regionK 5 rfl ?_; simp only [List.map_cons, List.map_nil]; simp (maxSteps := 1000000) (dsimp := false) (implicitDefEqProofs := false) (disch := omega) only [wrap64, go_sem]) | (refine awp_regionQK 5 (by kernel_rfl) (by kernel_rfl) (by kernel_rfl) ?_; simp only [List.map_cons, List.map_nil]; simp (maxSteps := 1000000) (dsimp := false) (implicitDefEqProofs := false) (disch := omega) only [wrap64, go_sem]) | refine awp_block ?_ | (refine awp_skip ?_; simp only [go_sem]) | (refine awp_exit ?_; simp only [go_sem]) | (refine awp_ret ?_; try simp only [go_sem]) | (refine awp_condP rfl ?_; try simp only [go_sem]) | (refine BrP.mk (fun h => ?_) (fun h => ?_) <;> try simp (dsimp := false) (disch := omega) only [wrap64]) | (refine Br.mk (fun h => ?_) (fun h => ?_) <;> try simp (dsimp := false) (disch := omega) only [wrap64]) | refine Ob.mk (by first | omega | (intro _ _; rfl) | trivial | (intros; trivial) | assumption | (intro i hi; have h0 : i = 0 := (by omega); subst h0; first | rfl | trivial) | (intro i hi; have h0 : i = 0 ∨ i = 1 := (by omega); rcases h0 with rfl | rfl <;> rfl) | (intro i hi; have h0 : i = 0 ∨ i = 1 ∨ i = 2 := (by omega); rcases h0 with rfl | rfl | rfl <;> rfl)) ?_ | apply_assumption -exfalso -symm)
  all_goals (first | (show endQ _ _ _ _ _ _ _; (repeat (rename (∀ (A : Fr) (H : Hp), AWP _ _ _ _ A H → _) => hK; clear hK)); (repeat (rename (Fr → Hp → Prop) => K; clear K))) | (show Exists _; (repeat (rename (∀ (A : Fr) (H : Hp), AWP _ _ _ _ A H → _) => hK; clear hK)); (repeat (rename (Fr → Hp → Prop) => K; clear K))) | skip)
  rw [e]
  exact end_retI' rfl rfl rfl rfl rfl rfl
end Go.Proofs.YtpffmolibjimgaaGreatDoor
end
/- The reference's sources: permutations and generators that are drawn. -/
section
namespace Go.Proofs.YtpffmolibjimgaaGreatDoor
open Go.Av
set_option linter.unusedSimpArgs false
set_option linter.unusedVariables false
attribute [local irreducible] AWP CallG Ob Br BrP Go.Av.Sub endQ AOps OpV AC thenA blkA opsVC opVC withA withArgs opsQ opQ CallQ withA2 withArgs2
theorem fits_take {H : Hp} {D : Nat → Prop} {h m N : Nat} {st : List Int} (hH : H h = some (.cells N (cM iv 0 st))) (hD : D h) (hN : N = st.length) (hm : m ≤ N) : Fits H D (.own h 0 1 m) (ints (st.take m)) := by
  show Fits H D (.own h 0 1 m) (.list false 1 (st.take m).length (cM iv 0 (st.take m)))
  rw [List.length_take, Nat.min_eq_left (by omega)]
  refine .own hH hD (by omega) (fun i hi => trivial) fun i hi => ?_
  rw [Nat.mul_one] at hi
  refine .ofEq ?_
  unfold cM
  congr 1
  rw [Nat.zero_add]
  simp [List.getD_eq_getElem?_getD, List.getElem?_take, hi]
theorem drawPerm_ok (d : Dc) (n : Int) (hn : 0 ≤ n ∧ n ≤ 21) : AC Tryz.prog 70 [.ref 1000000 0, .v (.int .i64 (n))] (DH .i64 d) pM (postDI iv 0 .i64 901 fun w => (w.length : Int) = n ∧ ∀ x ∈ w, 0 ≤ x ∧ x < n) := by
  refine ac_of_awp (N := ⟨_, pM, fun h hh => pM_low (Nat.lt_of_lt_of_le hh (by decide)), true⟩) Tryz.func70 rfl (by kernel_rfl) Tryz.ntmps70 (by simp) ?_
  simp only [argsFr, List.zipIdx_cons, List.zipIdx_nil, go_sem]
  unfold DH
  repeat' (first | refine awp_seqK fun K hK => ?_ | (refine awp_regionK 2291 rfl ?_; simp only [List.map_cons, List.map_nil]; simp (maxSteps := 1000000) (dsimp := false) (implicitDefEqProofs := false) (disch := omega) only [wrap64, go_sem]) | (refine awp_regionQK 2291 (by kernel_rfl) (by kernel_rfl) (by kernel_rfl) ?_; simp only [List.map_cons, List.map_nil]; simp (maxSteps := 1000000) (dsimp := false) (implicitDefEqProofs := false) (disch := omega) only [wrap64, go_sem]) | refine awp_block ?_ | (refine awp_skip ?_; simp only [go_sem]) | (refine awp_exit ?_; simp only [go_sem]) | (refine awp_ret ?_; try simp only [go_sem]) | (refine awp_condP rfl ?_; try simp only [go_sem]) | (refine BrP.mk (fun h => ?_) (fun h => ?_) <;> try simp (dsimp := false) (disch := omega) only [wrap64]) | (refine Br.mk (fun h => ?_) (fun h => ?_) <;> try simp (dsimp := false) (disch := omega) only [wrap64]) | refine Ob.mk (by first | omega | (intro _ _; rfl) | trivial | (intros; trivial) | assumption | (intro i hi; have h0 : i = 0 := (by omega); subst h0; first | rfl | trivial) | (intro i hi; have h0 : i = 0 ∨ i = 1 := (by omega); rcases h0 with rfl | rfl <;> rfl) | (intro i hi; have h0 : i = 0 ∨ i = 1 ∨ i = 2 := (by omega); rcases h0 with rfl | rfl | rfl <;> rfl)) ?_ | apply_assumption -exfalso -symm)
  all_goals (first | (show endQ _ _ _ _ _ _ _; (repeat (rename (∀ (A : Fr) (H : Hp), AWP _ _ _ _ A H → _) => hK; clear hK)); (repeat (rename (Fr → Hp → Prop) => K; clear K))) | (show Exists _; (repeat (rename (∀ (A : Fr) (H : Hp), AWP _ _ _ _ A H → _) => hK; clear hK)); (repeat (rename (Fr → Hp → Prop) => K; clear K))) | skip)
  refine awp_loop (ι := Nat × List Int × Dc) (fun k => [(6, .v (.int .i64 ((k.1 : Nat)))), (5, .own 30 0 1 k.1), (0, .ref 1000000 0), (1, .v (.int .i64 (n)))]) (fun k => (DH .i64 k.2.2).upd 30 (.cells k.1 (cM iv 0 k.2.1))) (fun k => k.1 ≤ n ∧ k.2.1.length = k.1 ∧ ∀ x ∈ k.2.1, 0 ≤ x ∧ x < n) (fun k => n.toNat - k.1) (0, [], d) ⟨by omega, rfl, by simp⟩ (Sub.mvD 30 8 (lay_cons ⟨_, rfl, .plain trivial⟩ (lay_cons ⟨_, rfl, .own rfl⟩ (lay_cons ⟨_, rfl, .ref rfl⟩ (lay_cons ⟨_, rfl, .plain trivial⟩ lay_nil)))) rfl rfl (fun i hi => by omega) rfl (by omega) (by omega) (fun _ => trivial)) ?_
  rintro ⟨k, w, d1⟩ ⟨hk, hw, hx⟩
  dsimp only at hk hw hx ⊢
  unfold DH
  have e1 : ∀ m : Nat, m ≤ k → (w.take m).length = m := fun m hm => by rw [List.length_take]; omega
  have e2 : ∀ m : Nat, m ≤ k → m + (k - m) = k := fun m hm => by omega
  have e3 : ∀ m : Nat, m ≤ k → m + 1 + (k - m) = k + 1 := fun m hm => by omega
  repeat' (first | ((first | refine atF (f := 71) ?_ | refine atQ (f := 71) ?_); (refine callD (by rfl) (sBelowP_ok _ _ (by omega)) (by rintro _ ⟨v, _, rfl⟩ _; rfl) (fun r d' hq => ?_); obtain ⟨v, hv, rfl⟩ := hq) <;> simp (maxSteps := 1000000) (dsimp := false) (implicitDefEqProofs := false) (disch := omega) only [wrap64, go_sem, Nat.sub_zero, e1, e2, e3, Nat.le_refl]) | (refine awp_regionGK (id := 6) 2291 [0,1,2,4,5,7,8,9] [3,6,10,11] [18,19,20,22,23,25,26,27,5,7,6] (by kernel_rfl) (by kernel_rfl) (by kernel_rfl) ?_; simp only [List.map_cons, List.map_nil, List.take_succ_cons, List.take_zero, List.drop_succ_cons, List.drop_zero, List.cons_append, List.nil_append, opsG, pickL, linkVC, gxVC]; simp (maxSteps := 1000000) (dsimp := false) (implicitDefEqProofs := false) (disch := omega) only [wrap64, go_sem, Nat.sub_zero, e1, e2, e3, Nat.le_refl]) | refine Ob.mk (AllH.mk fun _ => ?_) ?_ | exact True.intro | refine awp_seqK fun K hK => ?_ | (refine awp_regionK 2291 rfl ?_; simp only [List.map_cons, List.map_nil]; simp (maxSteps := 1000000) (dsimp := false) (implicitDefEqProofs := false) (disch := omega) only [wrap64, go_sem, Nat.sub_zero, e1, e2, e3, Nat.le_refl]) | (refine awp_regionQK 2291 (by kernel_rfl) (by kernel_rfl) (by kernel_rfl) ?_; simp only [List.map_cons, List.map_nil]; simp (maxSteps := 1000000) (dsimp := false) (implicitDefEqProofs := false) (disch := omega) only [wrap64, go_sem, Nat.sub_zero, e1, e2, e3, Nat.le_refl]) | refine awp_block ?_ | (refine awp_skip ?_; simp only [go_sem, Nat.sub_zero, e1, e2, e3, Nat.le_refl]) | (refine awp_exit ?_; simp only [go_sem, Nat.sub_zero, e1, e2, e3, Nat.le_refl]) | (refine awp_ret ?_; try simp only [go_sem, Nat.sub_zero, e1, e2, e3, Nat.le_refl]) | (refine awp_condP rfl ?_; try simp only [go_sem, Nat.sub_zero, e1, e2, e3, Nat.le_refl]) | (refine BrP.mk (fun h => ?_) (fun h => ?_) <;> try simp (dsimp := false) (disch := omega) only [wrap64]) | (refine Br.mk (fun h => ?_) (fun h => ?_) <;> try simp (dsimp := false) (disch := omega) only [wrap64]) | refine Ob.mk (by first | omega | (intro _ _; rfl) | trivial | (intros; trivial) | assumption | (intro i hi; have h0 : i = 0 := (by omega); subst h0; first | rfl | trivial) | (intro i hi; have h0 : i = 0 ∨ i = 1 := (by omega); rcases h0 with rfl | rfl <;> rfl) | (intro i hi; have h0 : i = 0 ∨ i = 1 ∨ i = 2 := (by omega); rcases h0 with rfl | rfl | rfl <;> rfl)) ?_ | ((first | (refine atP (f := 98) ?_; (refine callPI (.cons (fits_take rfl trivial (by omega) (by omega)) .nil) (specCopyInts_ok (w.take v.toNat) (by rw [List.length_take]; omega) 900) rfl ?_))); simp (maxSteps := 1000000) (dsimp := false) (implicitDefEqProofs := false) (disch := omega) only [wrap64, go_sem, Nat.sub_zero, e1, e2, e3, Nat.le_refl]) | apply_assumption -exfalso -symm)
  all_goals (first | (show endQ _ _ _ _ _ _ _; (repeat (rename (∀ (A : Fr) (H : Hp), AWP _ _ _ _ A H → _) => hK; clear hK)); (repeat (rename (Fr → Hp → Prop) => K; clear K))) | (show Exists _; (repeat (rename (∀ (A : Fr) (H : Hp), AWP _ _ _ _ A H → _) => hK; clear hK)); (repeat (rename (Fr → Hp → Prop) => K; clear K))) | skip)
  · have hxs : ∀ x ∈ w.take v.toNat ++ [(k : Int)] ++ w.drop v.toNat, 0 ≤ x ∧ x < n := fun x hm => by
      rcases List.mem_append.1 hm with h | h
      · rcases List.mem_append.1 h with h | h
        · exact hx x (List.mem_of_mem_take h)
        · rw [List.mem_singleton.1 h]; omega
      · exact hx x (List.mem_of_mem_drop h)
    refine ⟨(k + 1, w.take v.toNat ++ [(k : Int)] ++ w.drop v.toNat, d'), ⟨by dsimp only; omega, by simp; omega, hxs⟩, by dsimp only; omega, Sub.mvD 30 900 (lay_cons ⟨_, rfl, .plain trivial⟩ (lay_cons ⟨_, rfl, .own rfl⟩ (lay_cons ⟨_, rfl, .ref rfl⟩ (lay_cons ⟨_, rfl, .plain trivial⟩ lay_nil)))) rfl rfl (fun i hi => ?_) rfl (by omega) (by omega) (fun _ => trivial)⟩
    have h1 := e1 v.toNat (by omega)
    have h2 : (w.take v.toNat ++ [(k : Int)]).length = v.toNat + 1 := by rw [List.length_append, h1]; rfl
    have h3 := apF_cM iv 0 (w.take v.toNat) [(k : Int)]
    have h4 := apF_cM iv 0 (w.take v.toNat ++ [(k : Int)]) (w.drop v.toNat)
    rw [h1] at h3; rw [h2] at h4
    rw [h3, h4]
  · exact end_DI (d := d1) (xs := w) rfl rfl rfl rfl hw.symm (fun _ _ => rfl) rfl (by decide) (by decide) (fun _ => trivial) ⟨by omega, hx⟩
end Go.Proofs.YtpffmolibjimgaaGreatDoor
end
