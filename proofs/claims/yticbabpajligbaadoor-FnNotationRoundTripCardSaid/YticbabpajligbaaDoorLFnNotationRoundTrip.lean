import Derived.Test.YticbabpajligbaaDoorH21
import Derived.Test.YticbabpajligbaaDoorH23
namespace Go.Proofs.YticbabpajligbaaDoor
open Go.Av
set_option linter.unusedSimpArgs false
set_option linter.unusedVariables false
attribute [local irreducible] AWP CallG Ob Br BrP Go.Av.Sub endQ AOps OpV AC thenA blkA opsVC opVC withA withArgs opsQ opQ CallQ withA2 withArgs2
open Go.Nt (Nd nd0 kd ndOk sz isNt)
theorem ntk_len {xs : List Nd} (hv : isNt 2 xs) (j : Nat) : (kd xs j).length ≤ 1048576 := by
  by_cases hj : j < xs.length
  · have := Go.Nt.kids_len hv.2.2.2 (q := j) hj
    have := hv.2.1
    omega
  · have : kd xs j = [] := by
      show (xs.getD j nd0).kids = []
      rw [List.getD_eq_getElem?_getD, List.getElem?_eq_none (by omega)]; rfl
    rw [this]; exact Nat.zero_le _
theorem ndI_scrub (p : Nat → Bool) (xs : List Nd) (c : Int) : (AV.tup 2 (vecF [nds xs, .v (.int .i64 (c))])).scrub p = .tup 2 (vecF [nds xs, .v (.int .i64 (c))]) := by
  simp only [scrub_tup, scF_vecF, List.map_cons, List.map_nil]
  rfl
theorem parse_at {s : ByteArray} {ys : List Nd} {c : Int} (hp : parP nmAB s = (ys, c)) (hs : s.size ≤ 1048576) (hy : ys.length ≤ 1048576) : AC Tryd.prog 20 [.v (.string (nmAB)), .v (.string (s))] Hp.emp (fun _ => false) (retV (.tup 2 (vecF [nds ys, .v (.int .i64 (c))]))) := by
  have := implParse_frz nmAB s (by decide) hs (by rw [hp]; exact hy)
  rwa [hp] at this
set_option maxHeartbeats 8000000 in
theorem lawNotationRoundTrip_ok (xs : List Int) (hl : xs.length ≤ 9223372036854775807) (hb : ∀ j, 0 ≤ xs.getD j 0 ∧ xs.getD j 0 ≤ 255) : AC Tryd.prog 5 [bts xs] Hp.emp (fun _ => false) (retV (.v (.bool (true)))) := by
  refine ac_of_awp (N := ⟨_, fun _ => false, fun _ _ => rfl⟩) Tryd.func5 rfl (by kernel_rfl) Tryd.ntmps5 (by simp) ?_
  simp only [argsFr, List.zipIdx_cons, List.zipIdx_nil, go_sem]
  repeat' (first | ((first | refine atF (f := 18) ?_ | refine atQ (f := 18) ?_); (refine callRoll (roll_ok xs 1101 hb (by omega)) rfl (fun d0 => ?_)) <;> simp (maxSteps := 1000000) (dsimp := false) (implicitDefEqProofs := false) (disch := omega) only [wrap64, go_sem]) | ((first | refine atF (f := 19) ?_ | refine atQ (f := 19) ?_); (refine callD (by rfl) (w9Tree_ok _) (by rintro _ ⟨t, _, rfl⟩ q; rfl) (fun r d1 hq => ?_); obtain ⟨t, ht, rfl⟩ := hq) <;> simp (maxSteps := 1000000) (dsimp := false) (implicitDefEqProofs := false) (disch := omega) only [wrap64, go_sem]) | refine awp_seqK fun K hK => ?_ | (refine awp_regionK 1152941295816153085 rfl ?_; simp only [List.map_cons, List.map_nil]; simp (maxSteps := 1000000) (dsimp := false) (implicitDefEqProofs := false) (disch := omega) only [wrap64, go_sem]) | (refine awp_regionQK 1152941295816153085 (by kernel_rfl) (by kernel_rfl) (by kernel_rfl) ?_; simp only [List.map_cons, List.map_nil]; simp (maxSteps := 1000000) (dsimp := false) (implicitDefEqProofs := false) (disch := omega) only [wrap64, go_sem]) | refine awp_block ?_ | (refine awp_skip ?_; simp only [go_sem]) | (refine awp_exit ?_; simp only [go_sem]) | (refine awp_ret ?_; try simp only [go_sem]) | (refine awp_condP rfl ?_; try simp only [go_sem]) | (refine BrP.mk (fun h => ?_) (fun h => ?_) <;> try simp (dsimp := false) (disch := omega) only [wrap64]) | (refine Br.mk (fun h => ?_) (fun h => ?_) <;> try simp (dsimp := false) (disch := omega) only [wrap64]) | refine Ob.mk (by first | omega | (intro _ _; rfl) | trivial | (intros; trivial) | assumption | (intro i hi; have h0 : i = 0 := (by omega); subst h0; first | rfl | trivial) | (intro i hi; have h0 : i = 0 ∨ i = 1 := (by omega); rcases h0 with rfl | rfl <;> rfl) | (intro i hi; have h0 : i = 0 ∨ i = 1 ∨ i = 2 := (by omega); rcases h0 with rfl | rfl | rfl <;> rfl)) ?_ | ((first | ((first | refine atF (f := 17) ?_ | refine atQ (f := 17) ?_); (first | (refine cV (hac := big_ok xs) (hK := ?_)) | (refine cQV (hac := big_ok xs) (hK := ?_))))); simp (maxSteps := 1000000) (dsimp := false) (implicitDefEqProofs := false) (disch := omega) only [wrap64, go_sem]) | apply_assumption -exfalso -symm)
  all_goals (first | (show endQ _ _ _ _ _ _ _; (repeat (rename (∀ (A : Fr) (H : Hp), AWP _ _ _ _ A H → _) => hK; clear hK)); (repeat (rename (Fr → Hp → Prop) => K; clear K))) | (show Exists _; (repeat (rename (∀ (A : Fr) (H : Hp), AWP _ _ _ _ A H → _) => hK; clear hK)); (repeat (rename (Fr → Hp → Prop) => K; clear K))) | skip)
  · exact end_retV rfl rfl
  · have hv := ht.1
    have htl := hv.2.1
    obtain ⟨e1, e2, e3⟩ := back_whole ht
    have hcut := fun k hk => back_cut ht (k := k) hk
    have hsz := fnP_size nmAB t
    have hfm := implFormatNotation_ok nmAB t (by decide) (by omega) (ntk_len hv)
    have hpa := parse_at e2 (by omega) (by omega)
    have hiv := implIsValidNt_ok 2 t (by omega) (ntk_len hv)
    have hsv := specIsValidNt_ok 2 t (by omega) (ntk_len hv)
    rw [decide_eq_true hv] at hiv hsv
    have hsn := sameNodes_ok t (by omega) (ntk_len hv)
    obtain ⟨S, eS⟩ : ∃ S, S = fnP nmAB t := ⟨_, rfl⟩
    rw [← eS] at hfm hpa hcut hsz e3
    clear e1 e2 eS hv
    have hfm := Hold.mk hfm
    have hpa := Hold.mk hpa
    have hiv := Hold.mk hiv
    have hsv := Hold.mk hsv
    have hsn := Hold.mk hsn
    have hcut := Hold.mk hcut
    have e3 := Hold.mk e3
    repeat' (first | refine awp_seqK fun K hK => ?_ | (refine awp_regionK 1152941295816153085 rfl ?_; simp only [List.map_cons, List.map_nil]; simp (maxSteps := 1000000) (dsimp := false) (implicitDefEqProofs := false) (disch := omega) only [wrap64, go_sem]) | (refine awp_regionQK 1152941295816153085 (by kernel_rfl) (by kernel_rfl) (by kernel_rfl) ?_; simp only [List.map_cons, List.map_nil]; simp (maxSteps := 1000000) (dsimp := false) (implicitDefEqProofs := false) (disch := omega) only [wrap64, go_sem]) | refine awp_block ?_ | (refine awp_skip ?_; simp only [go_sem]) | (refine awp_exit ?_; simp only [go_sem]) | (refine awp_ret ?_; try simp only [go_sem]) | (refine awp_condP rfl ?_; try simp only [go_sem]) | (refine BrP.mk (fun h => ?_) (fun h => ?_) <;> try simp (dsimp := false) (disch := omega) only [wrap64]) | (refine Br.mk (fun h => ?_) (fun h => ?_) <;> try simp (dsimp := false) (disch := omega) only [wrap64]) | refine Ob.mk (by first | omega | (intro _ _; rfl) | trivial | (intros; trivial) | assumption | (intro i hi; have h0 : i = 0 := (by omega); subst h0; first | rfl | trivial) | (intro i hi; have h0 : i = 0 ∨ i = 1 := (by omega); rcases h0 with rfl | rfl <;> rfl) | (intro i hi; have h0 : i = 0 ∨ i = 1 ∨ i = 2 := (by omega); rcases h0 with rfl | rfl | rfl <;> rfl)) ?_ | ((first | ((first | refine atF (f := 15) ?_ | refine atQ (f := 15) ?_); (refine cV (hfit := .cons (.refl _) (.cons (.refl _) .nil)) (hac := hfm.h) (hK := ?_))) | ((first | refine atF (f := 20) ?_ | refine atQ (f := 20) ?_); (refine cR (hac := hpa.h) (hs := ndI_scrub _ _ _) (hK := ?_))) | ((first | refine atF (f := 21) ?_ | refine atQ (f := 21) ?_); (first | refine cV (hfit := .cons (.refl _) (.cons (.refl _) .nil)) (hac := hiv.h) (hK := ?_) | refine cQV (hfit := .cons (.refl _) (.cons (.refl _) .nil)) (hac := hiv.h) (hK := ?_))) | ((first | refine atF (f := 23) ?_ | refine atQ (f := 23) ?_); (first | refine cV (hfit := .cons (.refl _) (.cons (.refl _) .nil)) (hac := hsv.h) (hK := ?_) | refine cQV (hfit := .cons (.refl _) (.cons (.refl _) .nil)) (hac := hsv.h) (hK := ?_))) | ((first | refine atF (f := 22) ?_ | refine atQ (f := 22) ?_); (first | refine cV (hfit := .cons (.refl _) (.cons (.refl _) .nil)) (hac := hsn.h) (hK := ?_) | refine cQV (hfit := .cons (.refl _) (.cons (.refl _) .nil)) (hac := hsn.h) (hK := ?_)))); simp (maxSteps := 1000000) (dsimp := false) (implicitDefEqProofs := false) (disch := omega) only [wrap64, go_sem]) | apply_assumption -exfalso -symm)
    all_goals (first | (show endQ _ _ _ _ _ _ _; (repeat (rename (∀ (A : Fr) (H : Hp), AWP _ _ _ _ A H → _) => hK; clear hK)); (repeat (rename (Fr → Hp → Prop) => K; clear K))) | (show Exists _; (repeat (rename (∀ (A : Fr) (H : Hp), AWP _ _ _ _ A H → _) => hK; clear hK)); (repeat (rename (Fr → Hp → Prop) => K; clear K))) | skip)
    · have e := e3.h (by omega)
      exact end_retV' rfl rfl (by rw [decide_eq_true (show (t.length : Int) = 1 by omega)])
    · clear hfm hpa hiv hsv hsn e3
      repeat' (first | ((first | refine atF (f := 24) ?_ | refine atQ (f := 24) ?_); (refine callD (by rfl) (dBelow_ok _ _ (by omega)) (by rintro _ ⟨v, _, rfl⟩ _; rfl) (fun r d2 hq => ?_); obtain ⟨v, hv, rfl⟩ := hq) <;> simp (maxSteps := 1000000) (dsimp := false) (implicitDefEqProofs := false) (disch := omega) only [wrap64, go_sem]) | refine awp_seqK fun K hK => ?_ | (refine awp_regionK 1152941295816153085 rfl ?_; simp only [List.map_cons, List.map_nil]; simp (maxSteps := 1000000) (dsimp := false) (implicitDefEqProofs := false) (disch := omega) only [wrap64, go_sem]) | (refine awp_regionQK 1152941295816153085 (by kernel_rfl) (by kernel_rfl) (by kernel_rfl) ?_; simp only [List.map_cons, List.map_nil]; simp (maxSteps := 1000000) (dsimp := false) (implicitDefEqProofs := false) (disch := omega) only [wrap64, go_sem]) | refine awp_block ?_ | (refine awp_skip ?_; simp only [go_sem]) | (refine awp_exit ?_; simp only [go_sem]) | (refine awp_ret ?_; try simp only [go_sem]) | (refine awp_condP rfl ?_; try simp only [go_sem]) | (refine BrP.mk (fun h => ?_) (fun h => ?_) <;> try simp (dsimp := false) (disch := omega) only [wrap64]) | (refine Br.mk (fun h => ?_) (fun h => ?_) <;> try simp (dsimp := false) (disch := omega) only [wrap64]) | refine Ob.mk (by first | omega | (intro _ _; rfl) | trivial | (intros; trivial) | assumption | (intro i hi; have h0 : i = 0 := (by omega); subst h0; first | rfl | trivial) | (intro i hi; have h0 : i = 0 ∨ i = 1 := (by omega); rcases h0 with rfl | rfl <;> rfl) | (intro i hi; have h0 : i = 0 ∨ i = 1 ∨ i = 2 := (by omega); rcases h0 with rfl | rfl | rfl <;> rfl)) ?_ | apply_assumption -exfalso -symm)
      all_goals (first | (show endQ _ _ _ _ _ _ _; (repeat (rename (∀ (A : Fr) (H : Hp), AWP _ _ _ _ A H → _) => hK; clear hK)); (repeat (rename (Fr → Hp → Prop) => K; clear K))) | (show Exists _; (repeat (rename (∀ (A : Fr) (H : Hp), AWP _ _ _ _ A H → _) => hK; clear hK)); (repeat (rename (Fr → Hp → Prop) => K; clear K))) | skip)
      have hz : (S.extract 0 v.toNat).size = v.toNat := by rw [ByteArray.size_extract]; omega
      have hc2 := hcut.h v.toNat (by omega)
      obtain ⟨C, eC⟩ : ∃ C, C = S.extract 0 v.toNat := ⟨_, rfl⟩
      rw [← eC] at hz hc2 ⊢
      rcases hc2 with hp | ⟨ys, hp, hy, hf⟩
      · have hpa2 := Hold.mk (parse_at hp (by omega) (Nat.zero_le _))
        repeat' (first | refine awp_seqK fun K hK => ?_ | (refine awp_regionK 1152941295816153085 rfl ?_; simp only [List.map_cons, List.map_nil]; simp (maxSteps := 1000000) (dsimp := false) (implicitDefEqProofs := false) (disch := omega) only [wrap64, go_sem]) | (refine awp_regionQK 1152941295816153085 (by kernel_rfl) (by kernel_rfl) (by kernel_rfl) ?_; simp only [List.map_cons, List.map_nil]; simp (maxSteps := 1000000) (dsimp := false) (implicitDefEqProofs := false) (disch := omega) only [wrap64, go_sem]) | refine awp_block ?_ | (refine awp_skip ?_; simp only [go_sem]) | (refine awp_exit ?_; simp only [go_sem]) | (refine awp_ret ?_; try simp only [go_sem]) | (refine awp_condP rfl ?_; try simp only [go_sem]) | (refine BrP.mk (fun h => ?_) (fun h => ?_) <;> try simp (dsimp := false) (disch := omega) only [wrap64]) | (refine Br.mk (fun h => ?_) (fun h => ?_) <;> try simp (dsimp := false) (disch := omega) only [wrap64]) | refine Ob.mk (by first | omega | (intro _ _; rfl) | trivial | (intros; trivial) | assumption | (intro i hi; have h0 : i = 0 := (by omega); subst h0; first | rfl | trivial) | (intro i hi; have h0 : i = 0 ∨ i = 1 := (by omega); rcases h0 with rfl | rfl <;> rfl) | (intro i hi; have h0 : i = 0 ∨ i = 1 ∨ i = 2 := (by omega); rcases h0 with rfl | rfl | rfl <;> rfl)) ?_ | ((first | ((first | refine atF (f := 20) ?_ | refine atQ (f := 20) ?_); (refine cR (hac := hpa2.h) (hs := ndI_scrub _ _ _) (hK := ?_)))); simp (maxSteps := 1000000) (dsimp := false) (implicitDefEqProofs := false) (disch := omega) only [wrap64, go_sem]) | apply_assumption -exfalso -symm)
        all_goals (first | (show endQ _ _ _ _ _ _ _; (repeat (rename (∀ (A : Fr) (H : Hp), AWP _ _ _ _ A H → _) => hK; clear hK)); (repeat (rename (Fr → Hp → Prop) => K; clear K))) | (show Exists _; (repeat (rename (∀ (A : Fr) (H : Hp), AWP _ _ _ _ A H → _) => hK; clear hK)); (repeat (rename (Fr → Hp → Prop) => K; clear K))) | skip)
        · exact end_retV' rfl rfl (by rw [decide_eq_true (show ((0 : Nat) : Int) = 0 from rfl)])
        · omega
      · have hyl := hy.2.1
        have hpa2 := Hold.mk (parse_at hp (by omega) (by omega))
        have hfm2 := implFormatNotation_ok nmAB ys (by decide) (by omega) (ntk_len hy)
        rw [hf] at hfm2
        have hfm2 := Hold.mk hfm2
        repeat' (first | refine awp_seqK fun K hK => ?_ | (refine awp_regionK 1152941295816153085 rfl ?_; simp only [List.map_cons, List.map_nil]; simp (maxSteps := 1000000) (dsimp := false) (implicitDefEqProofs := false) (disch := omega) only [wrap64, go_sem]) | (refine awp_regionQK 1152941295816153085 (by kernel_rfl) (by kernel_rfl) (by kernel_rfl) ?_; simp only [List.map_cons, List.map_nil]; simp (maxSteps := 1000000) (dsimp := false) (implicitDefEqProofs := false) (disch := omega) only [wrap64, go_sem]) | refine awp_block ?_ | (refine awp_skip ?_; simp only [go_sem]) | (refine awp_exit ?_; simp only [go_sem]) | (refine awp_ret ?_; try simp only [go_sem]) | (refine awp_condP rfl ?_; try simp only [go_sem]) | (refine BrP.mk (fun h => ?_) (fun h => ?_) <;> try simp (dsimp := false) (disch := omega) only [wrap64]) | (refine Br.mk (fun h => ?_) (fun h => ?_) <;> try simp (dsimp := false) (disch := omega) only [wrap64]) | refine Ob.mk (by first | omega | (intro _ _; rfl) | trivial | (intros; trivial) | assumption | (intro i hi; have h0 : i = 0 := (by omega); subst h0; first | rfl | trivial) | (intro i hi; have h0 : i = 0 ∨ i = 1 := (by omega); rcases h0 with rfl | rfl <;> rfl) | (intro i hi; have h0 : i = 0 ∨ i = 1 ∨ i = 2 := (by omega); rcases h0 with rfl | rfl | rfl <;> rfl)) ?_ | ((first | ((first | refine atF (f := 20) ?_ | refine atQ (f := 20) ?_); (refine cR (hac := hpa2.h) (hs := ndI_scrub _ _ _) (hK := ?_))) | ((first | refine atF (f := 15) ?_ | refine atQ (f := 15) ?_); (refine cV (hfit := .cons (.refl _) (.cons (.refl _) .nil)) (hac := hfm2.h) (hK := ?_)))); simp (maxSteps := 1000000) (dsimp := false) (implicitDefEqProofs := false) (disch := omega) only [wrap64, go_sem]) | apply_assumption -exfalso -symm)
        all_goals (first | (show endQ _ _ _ _ _ _ _; (repeat (rename (∀ (A : Fr) (H : Hp), AWP _ _ _ _ A H → _) => hK; clear hK)); (repeat (rename (Fr → Hp → Prop) => K; clear K))) | (show Exists _; (repeat (rename (∀ (A : Fr) (H : Hp), AWP _ _ _ _ A H → _) => hK; clear hK)); (repeat (rename (Fr → Hp → Prop) => K; clear K))) | skip)
        exact end_retV' rfl rfl (by rw [beq_self_eq_true])
end Go.Proofs.YticbabpajligbaaDoor
