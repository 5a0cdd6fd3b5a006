import Derived.Test.YtpffmolibjimgaaGreatDoorQ18
import Derived.Test.YtpffmolibjimgaaGreatDoorQ24
import Derived.Test.YtpffmolibjimgaaGreatDoorQ3
import Derived.Test.YtpffmolibjimgaaGreatDoorQ16
/- Cycles and orders of permutations, both texts. -/
section
namespace Go.Proofs.YtpffmolibjimgaaGreatDoor
open Go.Av
set_option linter.unusedSimpArgs false
set_option linter.unusedVariables false
attribute [local irreducible] AWP CallG Ob Br BrP Go.Av.Sub endQ AOps OpV AC thenA blkA opsVC opVC withA withArgs opsQ opQ CallQ withA2 withArgs2
open Go.Pm (Pm comp invp idn img itr clen cyc isMn cycs lcmL ord)
theorem specCycleOf_ok (n : Nat) (p : List Int) (i : Nat) (hp : Pm n p) (hn : n ≤ 20) (hi : i < n) (d : Nat) : AC Tryz.prog 104 [ints p, .v (.int .i64 ((i : Nat)))] Hp.emp (fun _ => false) (retI d (cyc p i)) := by
  have hl := hp.1
  obtain ⟨hc1, hc2, hc3⟩ := Go.Pm.clen_ok hp hi
  have hc0 := Go.Pm.clen_pos p i
  have hg : ∀ k, p.getD (itr p i k) 0 = ((itr p i (k + 1) : Nat) : Int) := fun k => hp.get_eq (Go.Pm.itr_lt hp hi k)
  have hg0 : p.getD i 0 = ((itr p i 1 : Nat) : Int) := hg 0
  have hb : ∀ k, itr p i k < n := fun k => Go.Pm.itr_lt hp hi k
  have hcl := Go.Pm.cyc_length p i
  have h1 : (cyc p i).take 1 = [(i : Int)] := by
    rw [List.take_succ_eq_append_getElem (by omega)]
    simp [cyc, itr]
  refine ac_of_awp (N := ⟨_, fun _ => false, fun _ _ => rfl, true⟩) Tryz.func104 rfl (by kernel_rfl) Tryz.ntmps104 (by simp) ?_
  simp only [argsFr, List.zipIdx_cons, List.zipIdx_nil, go_sem]
  repeat' (first | refine awp_seqK fun K hK => ?_ | (refine awp_regionK 32883 rfl ?_; simp only [List.map_cons, List.map_nil]; simp (maxSteps := 1000000) (dsimp := false) (implicitDefEqProofs := false) (disch := omega) only [wrap64, go_sem, hg0]) | (refine awp_regionQK 32883 (by kernel_rfl) (by kernel_rfl) (by kernel_rfl) ?_; simp only [List.map_cons, List.map_nil]; simp (maxSteps := 1000000) (dsimp := false) (implicitDefEqProofs := false) (disch := omega) only [wrap64, go_sem, hg0]) | refine awp_block ?_ | (refine awp_skip ?_; simp only [go_sem, hg0]) | (refine awp_exit ?_; simp only [go_sem, hg0]) | (refine awp_ret ?_; try simp only [go_sem, hg0]) | (refine awp_condP rfl ?_; try simp only [go_sem, hg0]) | (refine BrP.mk (fun h => ?_) (fun h => ?_) <;> try simp (dsimp := false) (disch := omega) only [wrap64]) | (refine Br.mk (fun h => ?_) (fun h => ?_) <;> try simp (dsimp := false) (disch := omega) only [wrap64]) | refine Ob.mk (by first | omega | (intro _ _; rfl) | trivial | (intros; trivial) | assumption | (intro i hi; have h0 : i = 0 := (by omega); subst h0; first | rfl | trivial) | (intro i hi; have h0 : i = 0 ∨ i = 1 := (by omega); rcases h0 with rfl | rfl <;> rfl) | (intro i hi; have h0 : i = 0 ∨ i = 1 ∨ i = 2 := (by omega); rcases h0 with rfl | rfl | rfl <;> rfl)) ?_ | apply_assumption -exfalso -symm)
  all_goals (first | (show endQ _ _ _ _ _ _ _; (repeat (rename (∀ (A : Fr) (H : Hp), AWP _ _ _ _ A H → _) => hK; clear hK)); (repeat (rename (Fr → Hp → Prop) => K; clear K))) | (show Exists _; (repeat (rename (∀ (A : Fr) (H : Hp), AWP _ _ _ _ A H → _) => hK; clear hK)); (repeat (rename (Fr → Hp → Prop) => K; clear K))) | skip)
  refine awp_loop (ι := Nat) (fun k => [(6, .v (.int .i64 ((itr p i k : Nat)))), (5, .own 8 0 1 k), (0, .list false 1 (p).length (cM iv 0 (p))), (1, .v (.int .i64 ((i : Nat))))]) (fun k => Hp.emp.upd 8 (.cells k (cM iv 0 ((cyc p i).take k)))) (fun k => 1 ≤ k ∧ k ≤ clen p i) (fun k => clen p i - k) 1 ?_ (Sub.toL (by simp only [go_sem] <;> first | trivial | (simp only [Option.some.injEq, AV.v.injEq, AV.own.injEq, AV.list.injEq, Value.int.injEq, Value.bool.injEq, true_and, and_true]; first | omega | (simp [h1]; done)) | (simp [h1]; done) | (simp [h1]; omega)) (by (repeat' (first | exact Hp.le_emp _ | exact Hp.le_refl _ | refine Hp.le_upd ?_ ?_)); all_goals (first | rfl | (simp only [go_sem]; first | rfl | (refine cellsE ?_ ?_ <;> (simp [h1])) | (simp [h1]))))) ?_
  · exact ⟨Nat.le_refl _, hc0⟩
  intro k hk
  have hgk := hg k
  have hbk := hb k
  have htl : ((cyc p i).take k).length = k := by rw [List.length_take]; omega
  repeat' (first | refine awp_seqK fun K hK => ?_ | (refine awp_regionK 32883 rfl ?_; simp only [List.map_cons, List.map_nil]; simp (maxSteps := 1000000) (dsimp := false) (implicitDefEqProofs := false) (disch := omega) only [wrap64, go_sem, hgk]) | (refine awp_regionQK 32883 (by kernel_rfl) (by kernel_rfl) (by kernel_rfl) ?_; simp only [List.map_cons, List.map_nil]; simp (maxSteps := 1000000) (dsimp := false) (implicitDefEqProofs := false) (disch := omega) only [wrap64, go_sem, hgk]) | refine awp_block ?_ | (refine awp_skip ?_; simp only [go_sem, hgk]) | (refine awp_exit ?_; simp only [go_sem, hgk]) | (refine awp_ret ?_; try simp only [go_sem, hgk]) | (refine awp_condP rfl ?_; try simp only [go_sem, hgk]) | (refine BrP.mk (fun h => ?_) (fun h => ?_) <;> try simp (dsimp := false) (disch := omega) only [wrap64]) | (refine Br.mk (fun h => ?_) (fun h => ?_) <;> try simp (dsimp := false) (disch := omega) only [wrap64]) | refine Ob.mk (by first | omega | (intro _ _; rfl) | trivial | (intros; trivial) | assumption | (intro i hi; have h0 : i = 0 := (by omega); subst h0; first | rfl | trivial) | (intro i hi; have h0 : i = 0 ∨ i = 1 := (by omega); rcases h0 with rfl | rfl <;> rfl) | (intro i hi; have h0 : i = 0 ∨ i = 1 ∨ i = 2 := (by omega); rcases h0 with rfl | rfl | rfl <;> rfl)) ?_ | apply_assumption -exfalso -symm)
  all_goals (first | (show endQ _ _ _ _ _ _ _; (repeat (rename (∀ (A : Fr) (H : Hp), AWP _ _ _ _ A H → _) => hK; clear hK)); (repeat (rename (Fr → Hp → Prop) => K; clear K))) | (show Exists _; (repeat (rename (∀ (A : Fr) (H : Hp), AWP _ _ _ _ A H → _) => hK; clear hK)); (repeat (rename (Fr → Hp → Prop) => K; clear K))) | skip)
  · have e : k = clen p i := by
      rcases Nat.lt_or_ge k (clen p i) with h | h
      · exact absurd (by omega : itr p i k = i) (hc3 k (by omega) h)
      · omega
    subst e
    refine end_retI' rfl rfl rfl ?_ htl.symm rfl
    rw [← hcl, List.take_length]
  · have hlt : k < clen p i := by
      rcases Nat.lt_or_ge k (clen p i) with h | h
      · exact h
      · have e : k = clen p i := by omega
        exact absurd (by rw [e]; exact hc2) (show ¬ itr p i k = i by omega)
    have e1 : (cyc p i).take (k + 1) = (cyc p i).take k ++ [((itr p i k : Nat) : Int)] := by
      rw [List.take_succ_eq_append_getElem (by omega)]
      simp [cyc]
    have hap := apF_cM iv 0 ((cyc p i).take k) [((itr p i k : Nat) : Int)]
    rw [htl, ← e1] at hap
    exact ⟨k + 1, by omega, by omega, Sub.toL (by simp only [go_sem] <;> first | trivial | (simp only [Option.some.injEq, AV.v.injEq, AV.own.injEq, AV.list.injEq, Value.int.injEq, Value.bool.injEq, true_and, and_true]; first | omega | (simp; done)) | (simp; done) | (simp; omega)) (by (repeat' (first | exact Hp.le_emp _ | exact Hp.le_refl _ | refine Hp.le_upd ?_ ?_)); all_goals (first | rfl | (simp only [go_sem]; first | rfl | (refine cellsE ?_ ?_ <;> (simp [hap])) | (simp [hap]))))⟩
end Go.Proofs.YtpffmolibjimgaaGreatDoor
end
/- The reference's sources of choices: how they lie in memory, and what they answer. -/
section
namespace Go.Proofs.YtpffmolibjimgaaGreatDoor
open Go.Av
set_option linter.unusedSimpArgs false
set_option linter.unusedVariables false
attribute [local irreducible] AWP CallG Ob Br BrP Go.Av.Sub endQ AOps OpV AC thenA blkA opsVC opVC withA withArgs opsQ opQ CallQ withA2 withArgs2
/-- A number of the machine. -/
def r64 (x : Int) : Prop := -9223372036854775808 ≤ x ∧ x ≤ 9223372036854775807
end Go.Proofs.YtpffmolibjimgaaGreatDoor
end
section
namespace Go.Proofs.YtpffmolibjimgaaGreatDoor
open Go.Av
set_option linter.unusedSimpArgs false
set_option linter.unusedVariables false
attribute [local irreducible] AWP CallG Ob Br BrP Go.Av.Sub endQ AOps OpV AC thenA blkA opsVC opVC withA withArgs opsQ opQ CallQ withA2 withArgs2
open Go.Pm (Pm comp invp idn img)

/- ApplyWord -/
theorem isPz.gens {p : Pz} (h : isPz p) : gensP p.n.toNat p.m := .of h.1
theorem isSt.pm {p : Pz} {s : List Int} (h : isSt p s) : Pm p.n.toNat s := by
  have h1 := ((isPerm_pm s).1 h.2.2).2
  rwa [show s.length = p.n.toNat by have := h.2.1; omega] at h1
end Go.Proofs.YtpffmolibjimgaaGreatDoor
end
/- The reference's sources: permutations and generators that are drawn. -/
section
namespace Go.Proofs.YtpffmolibjimgaaGreatDoor
open Go.Av
set_option linter.unusedSimpArgs false
set_option linter.unusedVariables false
attribute [local irreducible] AWP CallG Ob Br BrP Go.Av.Sub endQ AOps OpV AC thenA blkA opsVC opVC withA withArgs opsQ opQ CallQ withA2 withArgs2
end Go.Proofs.YtpffmolibjimgaaGreatDoor
end
