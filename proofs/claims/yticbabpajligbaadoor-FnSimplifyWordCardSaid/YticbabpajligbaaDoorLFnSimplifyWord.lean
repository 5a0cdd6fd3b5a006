import Derived.Test.YticbabpajligbaaDoorK25
import Derived.Test.YticbabpajligbaaDoorK28
import Derived.Test.YticbabpajligbaaDoorK31
namespace Go.Proofs.YticbabpajligbaaDoor
open Go.Av
set_option linter.unusedSimpArgs false
set_option linter.unusedVariables false
attribute [local irreducible] AWP CallG Ob Br BrP Go.Av.Sub endQ AOps OpV AC thenA blkA opsVC opVC withA withArgs opsQ opQ CallQ withA2 withArgs2
open Go.Pm (Pm comp invp idn img)
open Go.Wd (smp SW absI ev Lts)
/-- What the law asks of a word made short. -/
theorem sw_law {p : Pz} {w : List Int} (hp : smallP p) (hw : isW 2 w) : ∃ P : List Int, evW p.n p.m w = (P, true) ∧ evW p.n p.m (simW p w) = (P, true) ∧ (simW p w).length ≤ w.length ∧ simW p (simW p w) = simW p w ∧ P.length ≤ 20 := by
  obtain ⟨hz, hn1, hn2, hm⟩ := hp
  have hm' : (p.m.length : Int) = 2 := by omega
  have hw' : isW p.m.length w := by rw [hm']; exact hw
  have hS := sw_of hz hw'
  obtain ⟨a, b, c, d⟩ := Go.Wd.smp_end hS
  have hwv : isW p.m.length (smp (odP p) w) := ⟨b.len, fun j hj => by
    obtain ⟨y, hy, e, h0⟩ := d _ (mem_getD.2 ⟨j, hj, rfl⟩)
    obtain ⟨i, hi, rfl⟩ := mem_getD.1 hy
    have := hw'.2 i hi
    unfold absI at e
    unfold isL at this ⊢
    omega⟩
  have e1 : simW p w = smp (odP p) w := if_pos ⟨hz, hw'⟩
  have e2 : simW p (smp (odP p) w) = smp (odP p) w := by
    show (if isPz p ∧ isW p.m.length (smp (odP p) w) then _ else _) = _
    rw [if_pos ⟨hz, hwv⟩, a]
  have hg := gensP.of hz.1
  have hL : Lts p.n.toNat (letP p.m) (fun a => 0 < a ∧ a ≤ p.m.length) := ⟨fun a ha => letP_pm hg (by unfold inL; omega), fun a ha => letP_neg hg (by unfold inL; omega)⟩
  have hab : ∀ x ∈ w, 0 < absI x ∧ absI x ≤ p.m.length := fun x hx => by
    obtain ⟨j, hj, rfl⟩ := mem_getD.1 hx
    have := hw'.2 j hj
    unfold isL at this
    unfold absI; omega
  have hev : evalP p.n.toNat p.m (smp (odP p) w) = evalP p.n.toNat p.m w := Go.Wd.ev_smp hL (Go.Pm.Pm.idn _) hS hab fun x hx => by
    have h1 := hab x hx
    have h2 := (odP_ok hz (a := absI x) (by omega)).2.1
    have e : letP p.m (absI x) = p.m.getD (absI x - 1).toNat [] := if_pos h1.1
    rw [e]
    refine ⟨rfl, ?_⟩
    unfold odP at h2
    omega
  have hpm := evalM_pm hg (isW_mem hw')
  refine ⟨evalP p.n.toNat p.m w, if_pos ⟨hz.1, hw'⟩, ?_, by rw [e1]; exact c, by rw [e1, e2], by rw [hpm.1]; omega⟩
  rw [e1, ← hev]
  exact if_pos ⟨hz.1, hwv⟩
theorem sT_scrub (p : Nat → Bool) (a : List Int) (b : Bool) : (AV.tup 2 (vecF [ints a, .v (.bool (b))])).scrub p = .tup 2 (vecF [ints a, .v (.bool (b))]) := by
  simp only [scrub_tup, scF_vecF, List.map_cons, List.map_nil]; rfl
set_option maxHeartbeats 8000000 in
theorem lawFnSimplifyWord_ok (xs : List Int) (hl : xs.length ≤ 9223372036854775807) (hb : ∀ j, 0 ≤ xs.getD j 0 ∧ xs.getD j 0 ≤ 255) : AC Tryd.prog 7 [bts xs] Hp.emp (fun _ => false) (retV (.v (.bool (true)))) := by
  refine ac_of_awp (N := ⟨_, fun _ => false, fun _ _ => rfl, true⟩) Tryd.func7 rfl (by kernel_rfl) Tryd.ntmps7 (by simp) ?_
  simp only [argsFr, List.zipIdx_cons, List.zipIdx_nil, go_sem]
  repeat' (first | ((first | refine atF (f := 18) ?_ | refine atQ (f := 18) ?_); (refine callRoll (roll_ok xs 1103 hb (by omega)) rfl (fun d0 => ?_)) <;> simp (maxSteps := 1000000) (dsimp := false) (implicitDefEqProofs := false) (disch := omega) only [wrap64, go_sem]) | ((first | refine atF (f := 30) ?_ | refine atQ (f := 30) ?_); (refine callD (by rfl) (w9Puzzle_ok _) (by rintro _ ⟨p, _, rfl⟩ q; exact pz_scrub _ _) (fun r d1 hq => ?_); obtain ⟨p, hp, rfl⟩ := hq) <;> simp (maxSteps := 1000000) (dsimp := false) (implicitDefEqProofs := false) (disch := omega) only [wrap64, go_sem]) | ((first | refine atF (f := 25) ?_ | refine atQ (f := 25) ?_); (refine callD (by rfl) (w9Word_ok _ 2 12 (by omega) (by omega)) (by rintro _ ⟨v, _, rfl⟩ q; rfl) (fun r d2 hq => ?_); obtain ⟨w, ⟨hw, hwl⟩, rfl⟩ := hq) <;> simp (maxSteps := 1000000) (dsimp := false) (implicitDefEqProofs := false) (disch := omega) only [wrap64, go_sem]) | refine awp_seqK fun K hK => ?_ | (refine awp_regionK 18446744073709575933 rfl ?_; simp only [List.map_cons, List.map_nil]; simp (maxSteps := 1000000) (dsimp := false) (implicitDefEqProofs := false) (disch := omega) only [wrap64, go_sem]) | (refine awp_regionQK 18446744073709575933 (by kernel_rfl) (by kernel_rfl) (by kernel_rfl) ?_; simp only [List.map_cons, List.map_nil]; simp (maxSteps := 1000000) (dsimp := false) (implicitDefEqProofs := false) (disch := omega) only [wrap64, go_sem]) | refine awp_block ?_ | (refine awp_skip ?_; simp only [go_sem]) | (refine awp_exit ?_; simp only [go_sem]) | (refine awp_ret ?_; try simp only [go_sem]) | (refine awp_condP rfl ?_; try simp only [go_sem]) | (refine BrP.mk (fun h => ?_) (fun h => ?_) <;> try simp (dsimp := false) (disch := omega) only [wrap64]) | (refine Br.mk (fun h => ?_) (fun h => ?_) <;> try simp (dsimp := false) (disch := omega) only [wrap64]) | refine Ob.mk (by first | omega | (intro _ _; rfl) | trivial | (intros; trivial) | assumption | (intro i hi; have h0 : i = 0 := (by omega); subst h0; first | rfl | trivial) | (intro i hi; have h0 : i = 0 ∨ i = 1 := (by omega); rcases h0 with rfl | rfl <;> rfl) | (intro i hi; have h0 : i = 0 ∨ i = 1 ∨ i = 2 := (by omega); rcases h0 with rfl | rfl | rfl <;> rfl)) ?_ | ((first | ((first | refine atF (f := 17) ?_ | refine atQ (f := 17) ?_); (first | (refine cV (hac := big_ok xs) (hK := ?_)) | (refine cQV (hac := big_ok xs) (hK := ?_))))); simp (maxSteps := 1000000) (dsimp := false) (implicitDefEqProofs := false) (disch := omega) only [wrap64, go_sem]) | apply_assumption -exfalso -symm)
  all_goals (first | (show endQ _ _ _ _ _ _ _; (repeat (rename (∀ (A : Fr) (H : Hp), AWP _ _ _ _ A H → _) => hK; clear hK)); (repeat (rename (Fr → Hp → Prop) => K; clear K))) | (show Exists _; (repeat (rename (∀ (A : Fr) (H : Hp), AWP _ _ _ _ A H → _) => hK; clear hK)); (repeat (rename (Fr → Hp → Prop) => K; clear K))) | skip)
  · exact end_retV rfl rfl
  · have hw : isW 2 w := hw
    have hwl : w.length ≤ 12 := by omega
    obtain ⟨P, e1, e2, e3, e4, e5⟩ := sw_law hp hw
    have e6 := pw_back hw (by omega)
    have hsz := fw_size hw
    have hps : p.s.size ≤ 140737488355328 := by have h1 := hp.1.2.2.1; have h2 := hp.2.2.2; omega
    have c1 := fun d => implSimplifyWord_ok p w hps d
    have c2 := fun d => implSimplifyWord_ok p (simW p w) hps d
    rw [e4] at c2
    have c3 := specEvaluateWord_ok p.n p.m w (by have := hp.2.2.2; omega)
    have c4 := specEvaluateWord_ok p.n p.m (simW p w) (by have := hp.2.2.2; omega)
    rw [e1] at c3
    rw [e2] at c4
    have c5 := implFormatWord_ok nmAB w (by decide) (by omega)
    have c6 := fun d => implParseWord_ok nmAB (fwP nmAB w) (by decide) (by omega) d
    rw [e6] at c6
    obtain ⟨S, eS⟩ : ∃ S, S = simW p w := ⟨_, rfl⟩
    obtain ⟨T, eT⟩ : ∃ T, T = fwP nmAB w := ⟨_, rfl⟩
    rw [← eS] at c1 c2 c4 e3
    rw [← eT] at c5 c6
    have c1 := Hold.mk c1
    have c2 := Hold.mk c2
    have c3 := Hold.mk c3
    have c4 := Hold.mk c4
    have c5 := Hold.mk c5
    have c6 := Hold.mk c6
    have l1 := likeInts_ok P P (by omega)
    have l2 := likeInts_ok S S (by omega)
    have l3 := likeInts_ok w w (by omega)
    rw [decide_eq_true rfl] at l1 l2 l3
    have l1 := Hold.mk l1
    have l2 := Hold.mk l2
    have l3 := Hold.mk l3
    clear e1 e2 e4 e6 eS eT hw hp
    repeat' (first | refine awp_seqK fun K hK => ?_ | (refine awp_regionK 18446744073709575933 rfl ?_; simp only [List.map_cons, List.map_nil]; simp (maxSteps := 1000000) (dsimp := false) (implicitDefEqProofs := false) (disch := omega) only [wrap64, go_sem]) | (refine awp_regionQK 18446744073709575933 (by kernel_rfl) (by kernel_rfl) (by kernel_rfl) ?_; simp only [List.map_cons, List.map_nil]; simp (maxSteps := 1000000) (dsimp := false) (implicitDefEqProofs := false) (disch := omega) only [wrap64, go_sem]) | refine awp_block ?_ | (refine awp_skip ?_; simp only [go_sem]) | (refine awp_exit ?_; simp only [go_sem]) | (refine awp_ret ?_; try simp only [go_sem]) | (refine awp_condP rfl ?_; try simp only [go_sem]) | (refine BrP.mk (fun h => ?_) (fun h => ?_) <;> try simp (dsimp := false) (disch := omega) only [wrap64]) | (refine Br.mk (fun h => ?_) (fun h => ?_) <;> try simp (dsimp := false) (disch := omega) only [wrap64]) | refine Ob.mk (by first | omega | (intro _ _; rfl) | trivial | (intros; trivial) | assumption | (intro i hi; have h0 : i = 0 := (by omega); subst h0; first | rfl | trivial) | (intro i hi; have h0 : i = 0 ∨ i = 1 := (by omega); rcases h0 with rfl | rfl <;> rfl) | (intro i hi; have h0 : i = 0 ∨ i = 1 ∨ i = 2 := (by omega); rcases h0 with rfl | rfl | rfl <;> rfl)) ?_ | ((first | ((first | refine atF (f := 31) ?_ | refine atQ (f := 31) ?_); (first | refine cFI (hac := c1.h 40) (hK := ?_) | refine cFI (hac := c2.h 41) (hK := ?_) | refine cQI (hac := c1.h 40) (hK := ?_) | refine cQI (hac := c2.h 41) (hK := ?_))) | ((first | refine atF (f := 32) ?_ | refine atQ (f := 32) ?_); (first | refine cR (hac := c3.h) (hK := ?_) (hs := sT_scrub _ _ _) | refine cR (hac := c4.h) (hK := ?_) (hs := sT_scrub _ _ _))) | ((first | refine atF (f := 10) ?_ | refine atQ (f := 10) ?_); (refine cV (hfit := .cons (.refl _) (.cons (.refl _) .nil)) (hac := c5.h) (hK := ?_))) | ((first | refine atF (f := 27) ?_ | refine atQ (f := 27) ?_); (refine cFIB (hac := c6.h 42) (hK := ?_))) | ((first | refine atF (f := 28) ?_ | refine atQ (f := 28) ?_); (first | refine cV (hfit := .cons (.refl _) (.cons (.refl _) .nil)) (hac := l1.h) (hK := ?_) | refine cV (hfit := .cons (.refl _) (.cons (.refl _) .nil)) (hac := l2.h) (hK := ?_) | refine cV (hfit := .cons (.refl _) (.cons (.refl _) .nil)) (hac := l3.h) (hK := ?_) | refine cQV (hfit := .cons (.refl _) (.cons (.refl _) .nil)) (hac := l1.h) (hK := ?_) | refine cQV (hfit := .cons (.refl _) (.cons (.refl _) .nil)) (hac := l2.h) (hK := ?_) | refine cQV (hfit := .cons (.refl _) (.cons (.refl _) .nil)) (hac := l3.h) (hK := ?_)))); simp (maxSteps := 1000000) (dsimp := false) (implicitDefEqProofs := false) (disch := omega) only [wrap64, go_sem]) | apply_assumption -exfalso -symm)
    all_goals (first | (show endQ _ _ _ _ _ _ _; (repeat (rename (∀ (A : Fr) (H : Hp), AWP _ _ _ _ A H → _) => hK; clear hK)); (repeat (rename (Fr → Hp → Prop) => K; clear K))) | (show Exists _; (repeat (rename (∀ (A : Fr) (H : Hp), AWP _ _ _ _ A H → _) => hK; clear hK)); (repeat (rename (Fr → Hp → Prop) => K; clear K))) | skip)
    all_goals first | exact end_retV rfl rfl | (exfalso; omega)
end Go.Proofs.YticbabpajligbaaDoor
