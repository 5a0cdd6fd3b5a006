import Derived.Test.YtdllbnchcjgcdaaD5
import Derived.Test.YtdllbnchcjgcdaaD2
import Derived.Test.YtdllbnchcjgcdaaD3
/- A pattern behind a word. -/
namespace Go.Proofs.Ytdllbnchcjgcdaa
open Go.Av
set_option linter.unusedSimpArgs false
set_option linter.unusedVariables false
attribute [local irreducible] AWP CallG Ob Br BrP Go.Av.Sub endQ AOps OpV AC thenA blkA opsVC opVC withA withArgs opsQ opQ CallQ withA2 withArgs2
open Go.Pm (Pm comp invp idn img)
theorem isW_in {g : List (List Int)} {w : List Int} (h : isW g.length w) (k : Nat) (hk : k < w.length) : inL g (w.getD k 0) := (wordP.of h) k hk
theorem isPat_len {p : Pz} {l q : List Int} (h : isPat p l q) : isPz p ∧ q.length ≤ 20 ∧ ∀ j, j < q.length → 0 ≤ q.getD j 0 ∧ q.getD j 0 < p.n.toNat := by
  have h1 := isTr_len h.1.2
  have hn := h.1.1.n
  refine ⟨h.1.1, ?_, fun j hj => ?_⟩
  · have := h.2.1; omega
  · have := (h.2.2 j hj).1; omega
theorem comp_rng {n : Nat} {q e : List Int} (hq : ∀ j, j < q.length → 0 ≤ q.getD j 0 ∧ q.getD j 0 < n) (he : Pm n e) : ∀ j, j < (comp q e).length → 0 ≤ (comp q e).getD j 0 ∧ (comp q e).getD j 0 < n := fun j hj => by
  rw [Go.Pm.comp_length] at hj
  rw [Go.Pm.comp_get _ _ hj]
  have := hq j hj
  exact he.2.1 _ (by unfold img; omega)
theorem applyLetters_ok (p : Pz) (q w : List Int) (hz : isPz p) (hw : isW p.m.length w) (hq0 : q.length ≤ 20) (hq : ∀ j, j < q.length → 0 ≤ q.getD j 0 ∧ q.getD j 0 < p.n.toNat) (d : Nat) : AC Try.prog 77 [pz p, ints q, ints w] Hp.emp (fun _ => false) (retI d (comp q (evalP p.n.toNat p.m w))) := by
  have hn := hz.n
  have hev := fun k hk => evalP_pm (n := p.n.toNat) hz.gens (wordP.of hw) k hk
  have hwl : w.length ≤ 200 := hw.1
  refine ac_of_awp (N := ⟨_, fun _ => false, fun _ _ => rfl⟩) Try.func77 rfl (by kernel_rfl) Try.ntmps77 (by simp) ?_
  simp only [argsFr, List.zipIdx_cons, List.zipIdx_nil, go_sem]
  repeat' (first | refine awp_seqK fun K hK => ?_ | (refine awp_regionK 16847 rfl ?_; simp only [List.map_cons, List.map_nil]; simp (maxSteps := 1000000) (dsimp := false) (implicitDefEqProofs := false) (disch := omega) only [wrap64, go_sem]) | (refine awp_regionQK 16847 (by kernel_rfl) (by kernel_rfl) (by kernel_rfl) ?_; simp only [List.map_cons, List.map_nil]; simp (maxSteps := 1000000) (dsimp := false) (implicitDefEqProofs := false) (disch := omega) only [wrap64, go_sem]) | refine awp_block ?_ | (refine awp_skip ?_; simp only [go_sem]) | (refine awp_exit ?_; simp only [go_sem]) | (refine awp_ret ?_; try simp only [go_sem]) | (refine awp_condP rfl ?_; try simp only [go_sem]) | (refine BrP.mk (fun h => ?_) (fun h => ?_) <;> try simp (dsimp := false) (disch := omega) only [wrap64]) | (refine Br.mk (fun h => ?_) (fun h => ?_) <;> try simp (dsimp := false) (disch := omega) only [wrap64]) | refine Ob.mk (by first | omega | (intro _ _; rfl) | trivial | (intros; trivial) | assumption | (intro i hi; have h0 : i = 0 := (by omega); subst h0; first | rfl | trivial) | (intro i hi; have h0 : i = 0 ∨ i = 1 := (by omega); rcases h0 with rfl | rfl <;> rfl) | (intro i hi; have h0 : i = 0 ∨ i = 1 ∨ i = 2 := (by omega); rcases h0 with rfl | rfl | rfl <;> rfl)) ?_ | ((first | ((first | refine atF (f := 95) ?_ | refine atQ (f := 95) ?_); (first | (refine cI (hac := specCopyInts_ok q (by omega) 10) (hK := ?_)) | (refine cQI (hac := specCopyInts_ok q (by omega) 10) (hK := ?_))))); simp (maxSteps := 1000000) (dsimp := false) (implicitDefEqProofs := false) (disch := omega) only [wrap64, go_sem]) | apply_assumption -exfalso -symm)
  all_goals (first | (show endQ _ _ _ _ _ _ _; (repeat (rename (∀ (A : Fr) (H : Hp), AWP _ _ _ _ A H → _) => hK; clear hK)); (repeat (rename (Fr → Hp → Prop) => K; clear K))) | (show Exists _; (repeat (rename (∀ (A : Fr) (H : Hp), AWP _ _ _ _ A H → _) => hK; clear hK)); (repeat (rename (Fr → Hp → Prop) => K; clear K))) | skip)
  have hcr := fun k hk => comp_rng hq (hev k hk)
  have e0 : comp q (evalP p.n.toNat p.m (w.take 0)) = q := by
    rw [List.take_zero]
    refine Go.Pm.ext (Go.Pm.comp_length _ _) fun j hj => ?_
    rw [Go.Pm.comp_length] at hj
    have := hq j hj
    rw [Go.Pm.comp_get _ _ hj]
    show (idn p.n.toNat).getD _ 0 = _
    rw [Go.Pm.idn_get (by unfold img; omega)]
    unfold img; omega
  refine awp_loop (ι := Nat) (fun k => [(8, .v (.int .i64 (k))), (7, .own 10 0 1 (comp q (evalP p.n.toNat p.m (w.take k))).length), (3, .ref 3 0), (2, .list false 1 (w).length (cM iv 0 (w)))]) (fun k => (Hp.emp.upd 3 (.cells 3 (vecF [.v (.int .i64 (p.n)), .v (.string (p.s)), .list false 1 (p.m).length (cM ints [] (p.m))]))).upd 10 (.cells (comp q (evalP p.n.toNat p.m (w.take k))).length (cM iv 0 (comp q (evalP p.n.toNat p.m (w.take k)))))) (fun k => k ≤ w.length) (fun k => w.length - k) 0 (Nat.zero_le _) (Sub.toL (by rw [e0]; exact (by simp only [go_sem] <;> first | trivial | (simp only [Option.some.injEq, AV.v.injEq, AV.own.injEq, AV.list.injEq, Value.int.injEq, Value.bool.injEq, true_and, and_true]; first | omega | (simp; done)) | (simp; done) | (simp; omega))) (by rw [e0]; exact (by (repeat' (first | exact Hp.le_emp _ | exact Hp.le_refl _ | refine Hp.le_upd ?_ ?_)); all_goals (first | rfl | (simp only [go_sem]; first | rfl | (refine cellsE ?_ ?_ <;> (simp)) | (simp)))))) ?_
  intro k hk
  have hr := hcr k hk
  have hcl := Go.Pm.comp_length q (evalP p.n.toNat p.m (w.take k))
  have hil := fun h => isW_in hw k h
  have hsn := evalP_snoc p.n.toNat p.m w k
  repeat' (first | (refine awp_regionEK (id := 5) 16847 6 (by kernel_rfl) (by kernel_rfl) (by kernel_rfl) ?_; simp only [List.map_cons, List.map_nil, opsE, List.take_succ_cons, List.take_zero, List.drop_succ_cons, List.drop_zero]; simp (maxSteps := 1000000) (dsimp := false) (implicitDefEqProofs := false) (disch := omega) only [wrap64, go_sem]) | refine awp_seqK fun K hK => ?_ | (refine awp_regionK 16847 rfl ?_; simp only [List.map_cons, List.map_nil]; simp (maxSteps := 1000000) (dsimp := false) (implicitDefEqProofs := false) (disch := omega) only [wrap64, go_sem]) | (refine awp_regionQK 16847 (by kernel_rfl) (by kernel_rfl) (by kernel_rfl) ?_; simp only [List.map_cons, List.map_nil]; simp (maxSteps := 1000000) (dsimp := false) (implicitDefEqProofs := false) (disch := omega) only [wrap64, go_sem]) | refine awp_block ?_ | (refine awp_skip ?_; simp only [go_sem]) | (refine awp_exit ?_; simp only [go_sem]) | (refine awp_ret ?_; try simp only [go_sem]) | (refine awp_condP rfl ?_; try simp only [go_sem]) | (refine BrP.mk (fun h => ?_) (fun h => ?_) <;> try simp (dsimp := false) (disch := omega) only [wrap64]) | (refine Br.mk (fun h => ?_) (fun h => ?_) <;> try simp (dsimp := false) (disch := omega) only [wrap64]) | refine Ob.mk (by first | omega | (intro _ _; rfl) | trivial | (intros; trivial) | assumption | (intro i hi; have h0 : i = 0 := (by omega); subst h0; first | rfl | trivial) | (intro i hi; have h0 : i = 0 ∨ i = 1 := (by omega); rcases h0 with rfl | rfl <;> rfl) | (intro i hi; have h0 : i = 0 ∨ i = 1 ∨ i = 2 := (by omega); rcases h0 with rfl | rfl | rfl <;> rfl)) ?_ | ((first | ((first | refine atF (f := 110) ?_ | refine atQ (f := 110) ?_); (first | (refine cI (hac := applyLetter_ok p (comp q (evalP p.n.toNat p.m (w.take k))) (w.getD k 0) hz (hil (by omega)) (by omega) (fun j hj => by have := hr j hj; omega) 10) (hK := ?_)) | (refine cQI (hac := applyLetter_ok p (comp q (evalP p.n.toNat p.m (w.take k))) (w.getD k 0) hz (hil (by omega)) (by omega) (fun j hj => by have := hr j hj; omega) 10) (hK := ?_))))); simp (maxSteps := 1000000) (dsimp := false) (implicitDefEqProofs := false) (disch := omega) only [wrap64, go_sem]) | apply_assumption -exfalso -symm)
  all_goals (first | (show endQ _ _ _ _ _ _ _; (repeat (rename (∀ (A : Fr) (H : Hp), AWP _ _ _ _ A H → _) => hK; clear hK)); (repeat (rename (Fr → Hp → Prop) => K; clear K))) | (show Exists _; (repeat (rename (∀ (A : Fr) (H : Hp), AWP _ _ _ _ A H → _) => hK; clear hK)); (repeat (rename (Fr → Hp → Prop) => K; clear K))) | skip)
  · refine ⟨k + 1, by omega, by omega, ?_⟩
    have e : comp (comp q (evalP p.n.toNat p.m (w.take k))) (letP p.m (w.getD k 0)) = comp q (evalP p.n.toNat p.m (w.take (k + 1))) := by
      rw [Go.Pm.comp_assoc (n := p.n.toNat) (fun j hj => by have := hq j hj; unfold img; omega) (hev k hk), hsn (by omega)]
    rw [e]
    exact Sub.toL (by simp only [go_sem] <;> first | trivial | (simp only [Option.some.injEq, AV.v.injEq, AV.own.injEq, AV.list.injEq, Value.int.injEq, Value.bool.injEq, true_and, and_true]; first | omega | (simp; done)) | (simp; done) | (simp; omega)) (by (repeat' (first | exact Hp.le_emp _ | exact Hp.le_refl _ | refine Hp.le_upd ?_ ?_)); all_goals (first | rfl | (simp only [go_sem]; first | rfl | (refine cellsE ?_ ?_ <;> (simp)) | (simp))))
  · have e : k = w.length := by omega
    subst e
    rw [List.take_length]
    exact end_retI' rfl rfl rfl rfl rfl rfl
noncomputable def paR (p : Pz) (l q w : List Int) : List Int × Bool := if isPat p l q ∧ isW p.m.length w then (comp q (evalP p.n.toNat p.m w), true) else ([], false)
theorem paR_len (p : Pz) (l q w : List Int) : (paR p l q w).1.length ≤ 20 := by
  unfold paR
  split
  · rename_i h
    have := (isPat_len h.1).2.1
    rw [Go.Pm.comp_length]; exact this
  · simp
theorem specPatternAfter_ok (p : Pz) (l q w : List Int) (hq0 : q.length ≤ 1048576) (d : Nat) : AC Try.prog 24 [pz p, ints l, ints q, ints w] Hp.emp (fun _ => false) (retIB d (paR p l q w).1 (paR p l q w).2) := by
  have hac := fun (h : isPat p l q) (k : isW p.m.length w) => applyLetters_ok p q w (isPat_len h).1 k (isPat_len h).2.1 (isPat_len h).2.2 27
  have hy : isPat p l q → isW p.m.length w → paR p l q w = (comp q (evalP p.n.toNat p.m w), true) := fun h k => if_pos ⟨h, k⟩
  have hn1 : ¬ isPat p l q → paR p l q w = ([], false) := fun h => if_neg (fun k => h k.1)
  have hn2 : ¬ isW p.m.length w → paR p l q w = ([], false) := fun h => if_neg (fun k => h k.2)
  refine ac_of_awp (N := ⟨_, fun _ => false, fun _ _ => rfl⟩) Try.func24 rfl (by kernel_rfl) Try.ntmps24 (by simp) ?_
  simp only [argsFr, List.zipIdx_cons, List.zipIdx_nil, go_sem]
  repeat' (first | refine awp_seqK fun K hK => ?_ | (refine awp_regionK 4195103 rfl ?_; simp only [List.map_cons, List.map_nil]; simp (maxSteps := 1000000) (dsimp := false) (implicitDefEqProofs := false) (disch := omega) only [wrap64, go_sem]) | (refine awp_regionQK 4195103 (by kernel_rfl) (by kernel_rfl) (by kernel_rfl) ?_; simp only [List.map_cons, List.map_nil]; simp (maxSteps := 1000000) (dsimp := false) (implicitDefEqProofs := false) (disch := omega) only [wrap64, go_sem]) | refine awp_block ?_ | (refine awp_skip ?_; simp only [go_sem]) | (refine awp_exit ?_; simp only [go_sem]) | (refine awp_ret ?_; try simp only [go_sem]) | (refine awp_condP rfl ?_; try simp only [go_sem]) | (refine BrP.mk (fun h => ?_) (fun h => ?_) <;> try simp (dsimp := false) (disch := omega) only [wrap64]) | (refine Br.mk (fun h => ?_) (fun h => ?_) <;> try simp (dsimp := false) (disch := omega) only [wrap64]) | refine Ob.mk (by first | omega | (intro _ _; rfl) | trivial | (intros; trivial) | assumption | (intro i hi; have h0 : i = 0 := (by omega); subst h0; first | rfl | trivial) | (intro i hi; have h0 : i = 0 ∨ i = 1 := (by omega); rcases h0 with rfl | rfl <;> rfl) | (intro i hi; have h0 : i = 0 ∨ i = 1 ∨ i = 2 := (by omega); rcases h0 with rfl | rfl | rfl <;> rfl)) ?_ | ((first | ((first | refine atF (f := 75) ?_ | refine atQ (f := 75) ?_); (first | (refine cV (hac := specIsPattern_ok p l q hq0) (hK := ?_)) | (refine cQV (hac := specIsPattern_ok p l q hq0) (hK := ?_)))) | ((first | refine atF (f := 76) ?_ | refine atQ (f := 76) ?_); (first | (refine cV (hac := specIsValidWord_ok p.m.length w) (hK := ?_)) | (refine cQV (hac := specIsValidWord_ok p.m.length w) (hK := ?_)))) | (refine cI (hac := hac (by assumption) (by assumption)) (hK := ?_)) | (refine cQI (hac := hac (by assumption) (by assumption)) (hK := ?_))); simp (maxSteps := 1000000) (dsimp := false) (implicitDefEqProofs := false) (disch := omega) only [wrap64, go_sem]) | apply_assumption -exfalso -symm)
  all_goals (first | (show endQ _ _ _ _ _ _ _; (repeat (rename (∀ (A : Fr) (H : Hp), AWP _ _ _ _ A H → _) => hK; clear hK)); (repeat (rename (Fr → Hp → Prop) => K; clear K))) | (show Exists _; (repeat (rename (∀ (A : Fr) (H : Hp), AWP _ _ _ _ A H → _) => hK; clear hK)); (repeat (rename (Fr → Hp → Prop) => K; clear K))) | skip)
  · exact end_retIB' rfl rfl rfl rfl (hy (by assumption) (by assumption)) (by decide) rfl rfl
  · exact end_retIB' rfl rfl rfl rfl (hn2 (by assumption)) (by decide) rfl rfl
  · exact end_retIB' rfl rfl rfl rfl (hn1 (by assumption)) (by decide) rfl rfl
theorem implPatternAfter_ok (p : Pz) (l q w : List Int) (hs0 : p.s.size ≤ 140737488355328) (hl0 : l.length ≤ 1048576) (hq0 : q.length ≤ 1048576) (d : Nat) : AC Try.prog 27 [pz p, ints l, ints q, ints w] Hp.emp (fun _ => false) (retIB d (paR p l q w).1 (paR p l q w).2) := by
  have hq1 : isPat p l q → isW p.m.length w → q.length ≤ 20 ∧ ∀ j, j < q.length → 0 ≤ q.getD j 0 ∧ q.getD j 0 < (evalP p.n.toNat p.m w).length := fun h k => by
    have h1 := isPat_len h
    have h2 := evalP_all h1.1.gens (wordP.of k)
    exact ⟨h1.2.1, fun j hj => by rw [h2.1]; exact h1.2.2 j hj⟩
  have hy : isPat p l q → isW p.m.length w → paR p l q w = (pick (evalP p.n.toNat p.m w) q, true) := fun h k => if_pos ⟨h, k⟩
  have hn1 : ¬ isPat p l q → paR p l q w = ([], false) := fun h => if_neg (fun k => h k.1)
  have hn2 : ¬ isW p.m.length w → paR p l q w = ([], false) := fun h => if_neg (fun k => h k.2)
  refine ac_of_awp (N := ⟨_, fun _ => false, fun _ _ => rfl⟩) Try.func27 rfl (by kernel_rfl) Try.ntmps27 (by simp) ?_
  simp only [argsFr, List.zipIdx_cons, List.zipIdx_nil, go_sem]
  repeat' (first | refine awp_seqK fun K hK => ?_ | (refine awp_regionK 1049375 rfl ?_; simp only [List.map_cons, List.map_nil]; simp (maxSteps := 1000000) (dsimp := false) (implicitDefEqProofs := false) (disch := omega) only [wrap64, go_sem]) | (refine awp_regionQK 1049375 (by kernel_rfl) (by kernel_rfl) (by kernel_rfl) ?_; simp only [List.map_cons, List.map_nil]; simp (maxSteps := 1000000) (dsimp := false) (implicitDefEqProofs := false) (disch := omega) only [wrap64, go_sem]) | refine awp_block ?_ | (refine awp_skip ?_; simp only [go_sem]) | (refine awp_exit ?_; simp only [go_sem]) | (refine awp_ret ?_; try simp only [go_sem]) | (refine awp_condP rfl ?_; try simp only [go_sem]) | (refine BrP.mk (fun h => ?_) (fun h => ?_) <;> try simp (dsimp := false) (disch := omega) only [wrap64]) | (refine Br.mk (fun h => ?_) (fun h => ?_) <;> try simp (dsimp := false) (disch := omega) only [wrap64]) | refine Ob.mk (by first | omega | (intro _ _; rfl) | trivial | (intros; trivial) | assumption | (intro i hi; have h0 : i = 0 := (by omega); subst h0; first | rfl | trivial) | (intro i hi; have h0 : i = 0 ∨ i = 1 := (by omega); rcases h0 with rfl | rfl <;> rfl) | (intro i hi; have h0 : i = 0 ∨ i = 1 ∨ i = 2 := (by omega); rcases h0 with rfl | rfl | rfl <;> rfl)) ?_ | ((first | ((first | refine atF (f := 79) ?_ | refine atQ (f := 79) ?_); (first | (refine cV (hac := implIsPattern_ok p l q hs0 hl0 hq0) (hK := ?_)) | (refine cQV (hac := implIsPattern_ok p l q hs0 hl0 hq0) (hK := ?_)))) | ((first | refine atF (f := 80) ?_ | refine atQ (f := 80) ?_); (first | (refine cV (hac := puzIsWord_ok p w) (hK := ?_)) | (refine cQV (hac := puzIsWord_ok p w) (hK := ?_)))) | ((first | refine atF (f := 82) ?_ | refine atQ (f := 82) ?_); (first | (refine cR (hac := implEvaluate_okP p w (isPat_len (by assumption)).1 (by assumption)) (hK := ?_)) | (refine cQR (hac := implEvaluate_okP p w (isPat_len (by assumption)).1 (by assumption)) (hK := ?_)))) | ((first | refine atF (f := 81) ?_ | refine atQ (f := 81) ?_); (first | (refine cI (hac := picked_ok (evalP p.n.toNat p.m w) q (by have := hq1 (by assumption) (by assumption); omega) (hq1 (by assumption) (by assumption)).2 28) (hK := ?_)) | (refine cQI (hac := picked_ok (evalP p.n.toNat p.m w) q (by have := hq1 (by assumption) (by assumption); omega) (hq1 (by assumption) (by assumption)).2 28) (hK := ?_))))); simp (maxSteps := 1000000) (dsimp := false) (implicitDefEqProofs := false) (disch := omega) only [wrap64, go_sem]) | apply_assumption -exfalso -symm)
  all_goals (first | (show endQ _ _ _ _ _ _ _; (repeat (rename (∀ (A : Fr) (H : Hp), AWP _ _ _ _ A H → _) => hK; clear hK)); (repeat (rename (Fr → Hp → Prop) => K; clear K))) | (show Exists _; (repeat (rename (∀ (A : Fr) (H : Hp), AWP _ _ _ _ A H → _) => hK; clear hK)); (repeat (rename (Fr → Hp → Prop) => K; clear K))) | skip)
  · exact end_retIB' rfl rfl rfl rfl (hy (by assumption) (by assumption)) (by decide) rfl rfl
  · exact end_retIB_nil' rfl rfl rfl (hn2 (by assumption)) (by decide) rfl
  · exact end_retIB_nil' rfl rfl rfl (hn1 (by assumption)) (by decide) rfl
end Go.Proofs.Ytdllbnchcjgcdaa
