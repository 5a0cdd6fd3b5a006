import Derived.Test.YtdllbnchcjgcdaaT46
import Derived.Test.YtdllbnchcjgcdaaC8
/- From one state to another. -/
namespace Go.Proofs.Ytdllbnchcjgcdaa
open Go.Av
set_option linter.unusedSimpArgs false
set_option linter.unusedVariables false
attribute [local irreducible] AWP CallG Ob Br BrP Go.Av.Sub endQ AOps OpV AC thenA blkA opsVC opVC withA withArgs opsQ opQ CallQ withA2 withArgs2
open Go.Pm (Pm comp invp idn img Gen Bf srch sorts srtN Srt slot sidx insAt)
theorem XA_mem {p : Pz} (h : (XS p).isSome = true) (s : List Int) : s ∈ (XA p).st ↔ Gen p.n.toNat ((lsP p).map (·.2)) s := by
  obtain ⟨B, hB⟩ := Option.isSome_iff_exists.1 h
  have hz := XS_pz hB
  rw [XA_some hB]
  rw [XS_yes hz] at hB
  obtain ⟨K, h1, h2, rfl⟩ := Go.Pm.srch_fin hB
  rw [h1.mem (lsP_pm hz) (idn_in _)]
  constructor
  · rintro ⟨g, hg, rfl⟩
    rw [(hg.pm (lsP_pm hz)).idn_comp]; exact hg
  · intro hg
    exact ⟨s, hg, ((hg.pm (lsP_pm hz)).idn_comp).symm⟩
theorem XA_btw {p : Pz} (h : (XS p).isSome = true) {a b : List Int} (ha : a ∈ (XA p).st) (hb : b ∈ (XA p).st) : comp (invp b) a ∈ (XA p).st := by
  have hz := (XA_whole h).1
  rw [XA_mem h] at ha hb ⊢
  exact (Gen.inv (lsP_pm hz) hb).prod (lsP_pm hz) ha
/-- Both states are among those that can be reached. -/
def okB (p : Pz) (a b : List Int) : Prop := (XS p).isSome = true ∧ isSt p a ∧ isSt p b ∧ a ∈ (XA p).st ∧ b ∈ (XA p).st
noncomputable instance (p : Pz) (a b : List Int) : Decidable (okB p a b) := by unfold okB; infer_instance
noncomputable def btwR (p : Pz) (a b : List Int) : List Int × Bool := if okB p a b then (comp (invp b) a, true) else ([], false)
theorem btw_st {p : Pz} {a b : List Int} (h : okB p a b) : isSt p (comp (invp b) a) := by
  have hn := h.2.1.1.n
  have h1 := h.2.2.1.pm.inv.comp h.2.1.pm
  exact ⟨h.2.1.1, by rw [h1.1]; omega, (isPerm_pm _).2 ⟨by rw [h1.1]; omega, by rw [h1.1]; exact h1⟩⟩
theorem samePerm_ok (a b : List Int) : AC Try.prog 175 [ints a, ints b] Hp.emp (fun _ => false) (retV (.v (.bool (decide (isPerm a ∧ isPerm b ∧ a.length = b.length))))) := by
  refine ac_of_awp (N := ⟨_, fun _ => false, fun _ _ => rfl⟩) Try.func175 rfl (by kernel_rfl) Try.ntmps175 (by simp) ?_
  simp only [argsFr, List.zipIdx_cons, List.zipIdx_nil, go_sem]
  repeat' (first | refine awp_seqK fun K hK => ?_ | (refine awp_regionK 19 rfl ?_; simp only [List.map_cons, List.map_nil]; simp (maxSteps := 1000000) (dsimp := false) (implicitDefEqProofs := false) (disch := omega) only [wrap64, go_sem]) | (refine awp_regionQK 19 (by kernel_rfl) (by kernel_rfl) (by kernel_rfl) ?_; simp only [List.map_cons, List.map_nil]; simp (maxSteps := 1000000) (dsimp := false) (implicitDefEqProofs := false) (disch := omega) only [wrap64, go_sem]) | refine awp_block ?_ | (refine awp_skip ?_; simp only [go_sem]) | (refine awp_exit ?_; simp only [go_sem]) | (refine awp_ret ?_; try simp only [go_sem]) | (refine awp_condP rfl ?_; try simp only [go_sem]) | (refine BrP.mk (fun h => ?_) (fun h => ?_) <;> try simp (dsimp := false) (disch := omega) only [wrap64]) | (refine Br.mk (fun h => ?_) (fun h => ?_) <;> try simp (dsimp := false) (disch := omega) only [wrap64]) | refine Ob.mk (by first | omega | (intro _ _; rfl) | trivial | (intros; trivial) | assumption | (intro i hi; have h0 : i = 0 := (by omega); subst h0; first | rfl | trivial) | (intro i hi; have h0 : i = 0 ∨ i = 1 := (by omega); rcases h0 with rfl | rfl <;> rfl) | (intro i hi; have h0 : i = 0 ∨ i = 1 ∨ i = 2 := (by omega); rcases h0 with rfl | rfl | rfl <;> rfl)) ?_ | ((first | ((first | refine atF (f := 140) ?_ | refine atQ (f := 140) ?_); (first | (refine cV (hac := specIsPermutation_ok a) (hK := ?_)) | (refine cQV (hac := specIsPermutation_ok a) (hK := ?_)))) | ((first | refine atF (f := 140) ?_ | refine atQ (f := 140) ?_); (first | (refine cV (hac := specIsPermutation_ok b) (hK := ?_)) | (refine cQV (hac := specIsPermutation_ok b) (hK := ?_))))); simp (maxSteps := 1000000) (dsimp := false) (implicitDefEqProofs := false) (disch := omega) only [wrap64, go_sem]) | apply_assumption -exfalso -symm)
  all_goals (first | (show endQ _ _ _ _ _ _ _; (repeat (rename (∀ (A : Fr) (H : Hp), AWP _ _ _ _ A H → _) => hK; clear hK)); (repeat (rename (Fr → Hp → Prop) => K; clear K))) | (show Exists _; (repeat (rename (∀ (A : Fr) (H : Hp), AWP _ _ _ _ A H → _) => hK; clear hK)); (repeat (rename (Fr → Hp → Prop) => K; clear K))) | skip)
  · refine end_retB rfl rfl ?_
    simp only [decide_eq_true_eq]
    exact ⟨fun k => ⟨by assumption, by assumption, by omega⟩, fun k => by omega⟩
  · refine end_retB rfl rfl ?_
    simp only [Bool.false_eq_true, false_iff]
    exact fun k => absurd k.2.1 (by assumption)
  · refine end_retB rfl rfl ?_
    simp only [Bool.false_eq_true, false_iff]
    exact fun k => absurd k.1 (by assumption)
theorem specComposeU_ok (a b : List Int) (ha : isPerm a) (hb : isPerm b) (hl : a.length = b.length) (d : Nat) : AC Try.prog 157 [ints a, ints b] Hp.emp (fun _ => false) (retIB d (comp a b) true) := by
  have h1 := (isPerm_pm a).1 ha
  have hp := h1.2.2.1
  refine ac_of_awp (N := ⟨_, fun _ => false, fun _ _ => rfl⟩) Try.func157 rfl (by kernel_rfl) Try.ntmps157 (by simp) ?_
  simp only [argsFr, List.zipIdx_cons, List.zipIdx_nil, go_sem]
  repeat' (first | refine awp_seqK fun K hK => ?_ | (refine awp_regionK 563 rfl ?_; simp only [List.map_cons, List.map_nil]; simp (maxSteps := 1000000) (dsimp := false) (implicitDefEqProofs := false) (disch := omega) only [wrap64, go_sem]) | (refine awp_regionQK 563 (by kernel_rfl) (by kernel_rfl) (by kernel_rfl) ?_; simp only [List.map_cons, List.map_nil]; simp (maxSteps := 1000000) (dsimp := false) (implicitDefEqProofs := false) (disch := omega) only [wrap64, go_sem]) | refine awp_block ?_ | (refine awp_skip ?_; simp only [go_sem]) | (refine awp_exit ?_; simp only [go_sem]) | (refine awp_ret ?_; try simp only [go_sem]) | (refine awp_condP rfl ?_; try simp only [go_sem]) | (refine BrP.mk (fun h => ?_) (fun h => ?_) <;> try simp (dsimp := false) (disch := omega) only [wrap64]) | (refine Br.mk (fun h => ?_) (fun h => ?_) <;> try simp (dsimp := false) (disch := omega) only [wrap64]) | refine Ob.mk (by first | omega | (intro _ _; rfl) | trivial | (intros; trivial) | assumption | (intro i hi; have h0 : i = 0 := (by omega); subst h0; first | rfl | trivial) | (intro i hi; have h0 : i = 0 ∨ i = 1 := (by omega); rcases h0 with rfl | rfl <;> rfl) | (intro i hi; have h0 : i = 0 ∨ i = 1 ∨ i = 2 := (by omega); rcases h0 with rfl | rfl | rfl <;> rfl)) ?_ | ((first | ((first | refine atF (f := 175) ?_ | refine atQ (f := 175) ?_); (first | (refine cV (hac := samePerm_ok a b) (hK := ?_)) | (refine cQV (hac := samePerm_ok a b) (hK := ?_)))) | ((first | refine atF (f := 176) ?_ | refine atQ (f := 176) ?_); (first | (refine cI (hac := specCompose_ok a b (by omega) (fun j hj => by rw [← hl]; exact hp j hj) 13) (hK := ?_)) | (refine cQI (hac := specCompose_ok a b (by omega) (fun j hj => by rw [← hl]; exact hp j hj) 13) (hK := ?_))))); simp (maxSteps := 1000000) (dsimp := false) (implicitDefEqProofs := false) (disch := omega) only [wrap64, go_sem]) | apply_assumption -exfalso -symm)
  all_goals (first | (show endQ _ _ _ _ _ _ _; (repeat (rename (∀ (A : Fr) (H : Hp), AWP _ _ _ _ A H → _) => hK; clear hK)); (repeat (rename (Fr → Hp → Prop) => K; clear K))) | (show Exists _; (repeat (rename (∀ (A : Fr) (H : Hp), AWP _ _ _ _ A H → _) => hK; clear hK)); (repeat (rename (Fr → Hp → Prop) => K; clear K))) | skip)
  · exact end_retIB' (p := (comp a b, true)) rfl rfl rfl rfl rfl (by decide) rfl rfl
  · exact absurd (show isPerm a ∧ isPerm b ∧ a.length = b.length from ⟨ha, hb, hl⟩) (by assumption)
theorem at_ok (p : Pz) (B : Bf) (s : List Int) (hB : ∀ s ∈ B.st, isB s) (hs : s ∈ B.st) (hl : s.length ≤ 20) : AC Try.prog 158 [.ref 1000000 0, ints s] (exH p B) pM (fun r H => r = .v (.int .i64 (((B.st.idxOf s : Nat) : Int))) ∧ H = exH p B) := by
  have hk := lk_get (xs := B.st) (hB s hs) hB hs
  refine ac_of_awp (N := ⟨_, pM, fun h hh => pM_low (Nat.lt_of_lt_of_le hh (by decide))⟩) Try.func158 rfl (by kernel_rfl) Try.ntmps158 (by simp) ?_
  simp only [argsFr, List.zipIdx_cons, List.zipIdx_nil, go_sem]
  unfold exH exR
  repeat' (first | refine awp_seqK fun K hK => ?_ | (refine awp_regionK 19 rfl ?_; simp only [List.map_cons, List.map_nil]; simp (maxSteps := 1000000) (dsimp := false) (implicitDefEqProofs := false) (disch := omega) only [wrap64, go_sem, hk]) | (refine awp_regionQK 19 (by kernel_rfl) (by kernel_rfl) (by kernel_rfl) ?_; simp only [List.map_cons, List.map_nil]; simp (maxSteps := 1000000) (dsimp := false) (implicitDefEqProofs := false) (disch := omega) only [wrap64, go_sem, hk]) | refine awp_block ?_ | (refine awp_skip ?_; simp only [go_sem, hk]) | (refine awp_exit ?_; simp only [go_sem, hk]) | (refine awp_ret ?_; try simp only [go_sem, hk]) | (refine awp_condP rfl ?_; try simp only [go_sem, hk]) | (refine BrP.mk (fun h => ?_) (fun h => ?_) <;> try simp (dsimp := false) (disch := omega) only [wrap64]) | (refine Br.mk (fun h => ?_) (fun h => ?_) <;> try simp (dsimp := false) (disch := omega) only [wrap64]) | refine Ob.mk (by first | omega | (intro _ _; rfl) | trivial | (intros; trivial) | assumption | (intro i hi; have h0 : i = 0 := (by omega); subst h0; first | rfl | trivial) | (intro i hi; have h0 : i = 0 ∨ i = 1 := (by omega); rcases h0 with rfl | rfl <;> rfl) | (intro i hi; have h0 : i = 0 ∨ i = 1 ∨ i = 2 := (by omega); rcases h0 with rfl | rfl | rfl <;> rfl)) ?_ | ((first | ((first | refine atF (f := 147) ?_ | refine atQ (f := 147) ?_); (first | (refine cV (hac := stateKey_ok s (by omega) (hB s hs)) (hK := ?_)) | (refine cQV (hac := stateKey_ok s (by omega) (hB s hs)) (hK := ?_))))); simp (maxSteps := 1000000) (dsimp := false) (implicitDefEqProofs := false) (disch := omega) only [wrap64, go_sem, hk]) | apply_assumption -exfalso -symm)
  all_goals (first | (show endQ _ _ _ _ _ _ _; (repeat (rename (∀ (A : Fr) (H : Hp), AWP _ _ _ _ A H → _) => hK; clear hK)); (repeat (rename (Fr → Hp → Prop) => K; clear K))) | (show Exists _; (repeat (rename (∀ (A : Fr) (H : Hp), AWP _ _ _ _ A H → _) => hK; clear hK)); (repeat (rename (Fr → Hp → Prop) => K; clear K))) | skip)
  · refine end_post rfl rfl (Hp.le_refl _) ?_
    exact ⟨rfl, rfl⟩
theorem sidx_mem {xs : List (List Int)} {s : List Int} : ¬ sidx xs s < 0 ↔ s ∈ xs := by
  rw [← sidx_yes]; omega
theorem stateBetween_ok (p : Pz) (a b : List Int) (d : Nat) : AC Try.prog 118 [pz p, ints a, ints b] Hp.emp (fun _ => false) (retIB d (btwR p a b).1 (btwR p a b).2) := by
  have hac := searchStates_ok p
  have hsc := XAt_scrub p (fun _ => true) (XS p).isSome
  have hid : ∀ s, (XS p).isSome = true → isSt p s → AC Try.prog 103 [slA (XA p).st (sorts (XA p).st), ints s] Hp.emp (fun _ => false) (retV (.v (.int .i64 (sidx (XA p).st s)))) := fun s h h2 => idxP_ok h h2.len
  have hla : isSt p a → a.length ≤ 20 ∧ isPerm a := fun h => ⟨((isPerm_pm a).1 h.2.2).1.2, h.2.2⟩
  have hlb : isSt p b → b.length ≤ 20 ∧ isPerm b ∧ isPerm (invp b) ∧ (invp b).length = p.n.toNat := fun h => by
    have h1 := h.pm.inv
    have hn := h.1.n
    exact ⟨((isPerm_pm b).1 h.2.2).1.2, h.2.2, (isPerm_pm _).2 ⟨by rw [h1.1]; omega, by rw [h1.1]; exact h1⟩, h1.1⟩
  have hab : isSt p a → isSt p b → (invp b).length = a.length := fun h k => by rw [(hlb k).2.2.2, h.len]
  have hyes : (XS p).isSome = true → isSt p a → isSt p b → ¬ sidx (XA p).st a < 0 → ¬ sidx (XA p).st b < 0 → btwR p a b = (comp (invp b) a, true) := fun h1 h2 h3 h4 h5 => if_pos ⟨h1, h2, h3, sidx_mem.1 h4, sidx_mem.1 h5⟩
  have hno1 : (XS p).isSome = false → btwR p a b = ([], false) := fun h => if_neg (fun k => by have := k.1; rw [h] at this; simp at this)
  have hno2 : ¬ isSt p a → btwR p a b = ([], false) := fun h => if_neg (fun k => h k.2.1)
  have hno3 : ¬ isSt p b → btwR p a b = ([], false) := fun h => if_neg (fun k => h k.2.2.1)
  have hno4 : sidx (XA p).st a < 0 → btwR p a b = ([], false) := fun h => if_neg (fun k => (sidx_mem.2 k.2.2.2.1) h)
  have hno5 : sidx (XA p).st b < 0 → btwR p a b = ([], false) := fun h => if_neg (fun k => (sidx_mem.2 k.2.2.2.2) h)
  unfold sFw at hac hsc
  refine ac_of_awp (N := ⟨_, fun _ => false, fun _ _ => rfl⟩) Try.func118 rfl (by kernel_rfl) Try.ntmps118 (by simp) ?_
  simp only [argsFr, List.zipIdx_cons, List.zipIdx_nil, go_sem]
  repeat' (first | (refine ob4 rfl rfl rfl rfl ?_) | refine awp_seqK fun K hK => ?_ | (refine awp_regionK 4398046513103 rfl ?_; simp only [List.map_cons, List.map_nil]; simp (maxSteps := 1000000) (dsimp := false) (implicitDefEqProofs := false) (disch := omega) only [wrap64, go_sem]) | (refine awp_regionQK 4398046513103 (by kernel_rfl) (by kernel_rfl) (by kernel_rfl) ?_; simp only [List.map_cons, List.map_nil]; simp (maxSteps := 1000000) (dsimp := false) (implicitDefEqProofs := false) (disch := omega) only [wrap64, go_sem]) | refine awp_block ?_ | (refine awp_skip ?_; simp only [go_sem]) | (refine awp_exit ?_; simp only [go_sem]) | (refine awp_ret ?_; try simp only [go_sem]) | (refine awp_condP rfl ?_; try simp only [go_sem]) | (refine BrP.mk (fun h => ?_) (fun h => ?_) <;> try simp (dsimp := false) (disch := omega) only [wrap64]) | (refine Br.mk (fun h => ?_) (fun h => ?_) <;> try simp (dsimp := false) (disch := omega) only [wrap64]) | refine Ob.mk (by first | omega | (intro _ _; rfl) | trivial | (intros; trivial) | assumption | (intro i hi; have h0 : i = 0 := (by omega); subst h0; first | rfl | trivial) | (intro i hi; have h0 : i = 0 ∨ i = 1 := (by omega); rcases h0 with rfl | rfl <;> rfl) | (intro i hi; have h0 : i = 0 ∨ i = 1 ∨ i = 2 := (by omega); rcases h0 with rfl | rfl | rfl <;> rfl)) ?_ | ((first | (refine cR (hac := hac) (hK := ?_) (hs := hsc)) | ((first | refine atF (f := 88) ?_ | refine atQ (f := 88) ?_); (first | (refine cV (hac := specIsState_ok p a) (hK := ?_)) | (refine cQV (hac := specIsState_ok p a) (hK := ?_)))) | ((first | refine atF (f := 88) ?_ | refine atQ (f := 88) ?_); (first | (refine cV (hac := specIsState_ok p b) (hK := ?_)) | (refine cQV (hac := specIsState_ok p b) (hK := ?_)))) | ((first | refine atF (f := 103) ?_ | refine atQ (f := 103) ?_); (first | refine cV (hfit := .cons (fits_slF rfl rfl) (.cons (.refl _) .nil)) (hac := hid a (by assumption) (by assumption)) (hK := ?_) | refine cV (hfit := .cons (fits_slF rfl rfl) (.cons (.refl _) .nil)) (hac := hid b (by assumption) (by assumption)) (hK := ?_))) | ((first | refine atF (f := 156) ?_ | refine atQ (f := 156) ?_); (first | (refine cFI (hac := specInverseU_ok b (hlb (by assumption)).2.1 46) (hK := ?_)) | (refine cQI (hac := specInverseU_ok b (hlb (by assumption)).2.1 46) (hK := ?_)))) | ((first | refine atF (f := 157) ?_ | refine atQ (f := 157) ?_); (first | (refine cIB (hac := specComposeU_ok (invp b) a (hlb (by assumption)).2.2.1 (hla (by assumption)).2 (hab (by assumption) (by assumption)) 44) (hK := ?_))))); simp (maxSteps := 1000000) (dsimp := false) (implicitDefEqProofs := false) (disch := omega) only [wrap64, go_sem]) | apply_assumption -exfalso -symm)
  all_goals (first | (show endQ _ _ _ _ _ _ _; (repeat (rename (∀ (A : Fr) (H : Hp), AWP _ _ _ _ A H → _) => hK; clear hK)); (repeat (rename (Fr → Hp → Prop) => K; clear K))) | (show Exists _; (repeat (rename (∀ (A : Fr) (H : Hp), AWP _ _ _ _ A H → _) => hK; clear hK)); (repeat (rename (Fr → Hp → Prop) => K; clear K))) | skip)
  · exact end_retIB' rfl rfl rfl rfl (hno4 (by assumption)) (by decide) rfl rfl
  · exact end_retIB' rfl rfl rfl rfl (hno5 (by assumption)) (by decide) rfl rfl
  · exact end_retIB' rfl rfl rfl rfl (hyes (by assumption) (by assumption) (by assumption) (by assumption) (by assumption)) (by decide) rfl rfl
  · exact end_retIB' rfl rfl rfl rfl (hno3 (by assumption)) (by decide) rfl rfl
  · exact end_retIB' rfl rfl rfl rfl (hno2 (by assumption)) (by decide) rfl rfl
  · exact end_retIB' rfl rfl rfl rfl (hno1 (by assumption)) (by decide) rfl rfl
noncomputable def dbtP (p : Pz) (a b : List Int) : Int := if okB p a b then dstP p (comp (invp b) a) else -1
theorem specDistanceBetween_ok (p : Pz) (a b : List Int) : AC Try.prog 66 [pz p, ints a, ints b] Hp.emp (fun _ => false) (retV (.v (.int .i64 (dbtP p a b)))) := by
  have hsb := stateBetween_ok p a b 13
  have hy : okB p a b → (btwR p a b).1 = comp (invp b) a ∧ (btwR p a b).2 = true := fun h => by unfold btwR; rw [if_pos h]; exact ⟨rfl, rfl⟩
  have hn : ¬ okB p a b → (btwR p a b).2 = false := fun h => by unfold btwR; rw [if_neg h]
  by_cases h : okB p a b
  · obtain ⟨e1, e2⟩ := hy h
    rw [e1, e2] at hsb
    refine ac_of_awp (N := ⟨_, fun _ => false, fun _ _ => rfl⟩) Try.func66 rfl (by kernel_rfl) Try.ntmps66 (by simp) ?_
    simp only [argsFr, List.zipIdx_cons, List.zipIdx_nil, go_sem]
    repeat' (first | refine awp_seqK fun K hK => ?_ | (refine awp_regionK 131535 rfl ?_; simp only [List.map_cons, List.map_nil]; simp (maxSteps := 1000000) (dsimp := false) (implicitDefEqProofs := false) (disch := omega) only [wrap64, go_sem]) | (refine awp_regionQK 131535 (by kernel_rfl) (by kernel_rfl) (by kernel_rfl) ?_; simp only [List.map_cons, List.map_nil]; simp (maxSteps := 1000000) (dsimp := false) (implicitDefEqProofs := false) (disch := omega) only [wrap64, go_sem]) | refine awp_block ?_ | (refine awp_skip ?_; simp only [go_sem]) | (refine awp_exit ?_; simp only [go_sem]) | (refine awp_ret ?_; try simp only [go_sem]) | (refine awp_condP rfl ?_; try simp only [go_sem]) | (refine BrP.mk (fun h => ?_) (fun h => ?_) <;> try simp (dsimp := false) (disch := omega) only [wrap64]) | (refine Br.mk (fun h => ?_) (fun h => ?_) <;> try simp (dsimp := false) (disch := omega) only [wrap64]) | refine Ob.mk (by first | omega | (intro _ _; rfl) | trivial | (intros; trivial) | assumption | (intro i hi; have h0 : i = 0 := (by omega); subst h0; first | rfl | trivial) | (intro i hi; have h0 : i = 0 ∨ i = 1 := (by omega); rcases h0 with rfl | rfl <;> rfl) | (intro i hi; have h0 : i = 0 ∨ i = 1 ∨ i = 2 := (by omega); rcases h0 with rfl | rfl | rfl <;> rfl)) ?_ | ((first | (refine cIB (hac := hsb) (hK := ?_)) | ((first | refine atF (f := 50) ?_ | refine atQ (f := 50) ?_); (first | (refine cV (hac := specDistance_ok p (comp (invp b) a)) (hK := ?_)) | (refine cQV (hac := specDistance_ok p (comp (invp b) a)) (hK := ?_))))); simp (maxSteps := 1000000) (dsimp := false) (implicitDefEqProofs := false) (disch := omega) only [wrap64, go_sem]) | apply_assumption -exfalso -symm)
    all_goals (first | (show endQ _ _ _ _ _ _ _; (repeat (rename (∀ (A : Fr) (H : Hp), AWP _ _ _ _ A H → _) => hK; clear hK)); (repeat (rename (Fr → Hp → Prop) => K; clear K))) | (show Exists _; (repeat (rename (∀ (A : Fr) (H : Hp), AWP _ _ _ _ A H → _) => hK; clear hK)); (repeat (rename (Fr → Hp → Prop) => K; clear K))) | skip)
    · exact end_retN rfl rfl (if_pos h).symm
  · rw [hn h] at hsb
    refine ac_of_awp (N := ⟨_, fun _ => false, fun _ _ => rfl⟩) Try.func66 rfl (by kernel_rfl) Try.ntmps66 (by simp) ?_
    simp only [argsFr, List.zipIdx_cons, List.zipIdx_nil, go_sem]
    repeat' (first | refine awp_seqK fun K hK => ?_ | (refine awp_regionK 131535 rfl ?_; simp only [List.map_cons, List.map_nil]; simp (maxSteps := 1000000) (dsimp := false) (implicitDefEqProofs := false) (disch := omega) only [wrap64, go_sem]) | (refine awp_regionQK 131535 (by kernel_rfl) (by kernel_rfl) (by kernel_rfl) ?_; simp only [List.map_cons, List.map_nil]; simp (maxSteps := 1000000) (dsimp := false) (implicitDefEqProofs := false) (disch := omega) only [wrap64, go_sem]) | refine awp_block ?_ | (refine awp_skip ?_; simp only [go_sem]) | (refine awp_exit ?_; simp only [go_sem]) | (refine awp_ret ?_; try simp only [go_sem]) | (refine awp_condP rfl ?_; try simp only [go_sem]) | (refine BrP.mk (fun h => ?_) (fun h => ?_) <;> try simp (dsimp := false) (disch := omega) only [wrap64]) | (refine Br.mk (fun h => ?_) (fun h => ?_) <;> try simp (dsimp := false) (disch := omega) only [wrap64]) | refine Ob.mk (by first | omega | (intro _ _; rfl) | trivial | (intros; trivial) | assumption | (intro i hi; have h0 : i = 0 := (by omega); subst h0; first | rfl | trivial) | (intro i hi; have h0 : i = 0 ∨ i = 1 := (by omega); rcases h0 with rfl | rfl <;> rfl) | (intro i hi; have h0 : i = 0 ∨ i = 1 ∨ i = 2 := (by omega); rcases h0 with rfl | rfl | rfl <;> rfl)) ?_ | ((first | (refine cIB (hac := hsb) (hK := ?_))); simp (maxSteps := 1000000) (dsimp := false) (implicitDefEqProofs := false) (disch := omega) only [wrap64, go_sem]) | apply_assumption -exfalso -symm)
    all_goals (first | (show endQ _ _ _ _ _ _ _; (repeat (rename (∀ (A : Fr) (H : Hp), AWP _ _ _ _ A H → _) => hK; clear hK)); (repeat (rename (Fr → Hp → Prop) => K; clear K))) | (show Exists _; (repeat (rename (∀ (A : Fr) (H : Hp), AWP _ _ _ _ A H → _) => hK; clear hK)); (repeat (rename (Fr → Hp → Prop) => K; clear K))) | skip)
    · exact end_retN rfl rfl (if_neg h).symm
def postB (p : Pz) (a b : List Int) (r : AV) (H : Hp) : Prop := (okB p a b ∧ r = .tup 3 (vecF [.ref 1000000 0, .v (.int .i64 ((((XA p).st.idxOf (comp (invp b) a) : Nat) : Int))), .v (.bool (true))]) ∧ H = exH p (XA p)) ∨ (¬ okB p a b ∧ r = .tup 3 (vecF [.v (.pointer none), .v (.int .i64 (0)), .v (.bool (false))]) ∧ H = Hp.emp)
theorem between_ok (p : Pz) (a b : List Int) (hs0 : p.s.size ≤ 140737488355328) : AC Try.prog 119 [pz p, ints a, ints b] Hp.emp (fun _ => false) (postB p a b) := by
  have hf := fun h : (XS p).isSome = true => find_ok p (XA p) b (XA_whole h).1 (XA_isB h)
  have hbl : isSt p b ∧ b ∈ (XA p).st → b.length ≤ 20 ∧ Pm b.length b := fun h => by
    have h1 := (isPerm_pm b).1 h.1.2.2
    exact ⟨h1.1.2, h1.2⟩
  have hbi : isSt p a ∧ a ∈ (XA p).st → isSt p b ∧ b ∈ (XA p).st → (invp b).length ≤ 20 ∧ (∀ j, j < (invp b).length → 0 ≤ (invp b).getD j 0 ∧ (invp b).getD j 0 < a.length) := fun k h => by
    have h1 := h.1.pm.inv
    have hn := h.1.1.n
    have := k.1.len
    exact ⟨by rw [h1.1]; omega, fun j hj => by rw [this]; exact h1.2.1 j (by rw [← h1.1]; exact hj)⟩
  have hok : (XS p).isSome = true → isSt p a ∧ a ∈ (XA p).st → isSt p b ∧ b ∈ (XA p).st → okB p a b := fun h1 h2 h3 => ⟨h1, h2.1, h3.1, h2.2, h3.2⟩
  have hat : (XS p).isSome = true → isSt p a ∧ a ∈ (XA p).st → isSt p b ∧ b ∈ (XA p).st → AC Try.prog 158 [.ref 1000000 0, ints (comp (invp b) a)] (exH p (XA p)) pM (fun r H => r = .v (.int .i64 ((((XA p).st.idxOf (comp (invp b) a) : Nat) : Int))) ∧ H = exH p (XA p)) := fun h1 h2 h3 => by
    have h4 := btw_st (hok h1 h2 h3)
    have := h4.len
    have := h4.1.n20
    exact at_ok p (XA p) _ (XA_isB h1) (XA_btw h1 h2.2 h3.2) (by omega)
  refine ac_of_awp (N := ⟨_, fun _ => false, fun _ _ => rfl⟩) Try.func119 rfl (by kernel_rfl) Try.ntmps119 (by simp) ?_
  simp only [argsFr, List.zipIdx_cons, List.zipIdx_nil, go_sem]
  repeat' (first | ((first | refine atF (f := 106) ?_ | refine atQ (f := 106) ?_); refine callS3 (exploreState_ok p a hs0) rfl (fun hX => ?_) (fun hX => ?_) <;> simp (maxSteps := 1000000) (dsimp := false) (implicitDefEqProofs := false) (disch := omega) only [wrap64, go_sem, pM_low]) | refine awp_seqK fun K hK => ?_ | (refine awp_regionK 1077947343 rfl ?_; simp only [List.map_cons, List.map_nil]; simp (maxSteps := 1000000) (dsimp := false) (implicitDefEqProofs := false) (disch := omega) only [wrap64, go_sem, pM_low]) | (refine awp_regionQK 1077947343 (by kernel_rfl) (by kernel_rfl) (by kernel_rfl) ?_; simp only [List.map_cons, List.map_nil]; simp (maxSteps := 1000000) (dsimp := false) (implicitDefEqProofs := false) (disch := omega) only [wrap64, go_sem, pM_low]) | refine awp_block ?_ | (refine awp_skip ?_; simp only [go_sem, pM_low]) | (refine awp_exit ?_; simp only [go_sem, pM_low]) | (refine awp_ret ?_; try simp only [go_sem, pM_low]) | (refine awp_condP rfl ?_; try simp only [go_sem, pM_low]) | (refine BrP.mk (fun h => ?_) (fun h => ?_) <;> try simp (dsimp := false) (disch := omega) only [wrap64]) | (refine Br.mk (fun h => ?_) (fun h => ?_) <;> try simp (dsimp := false) (disch := omega) only [wrap64]) | refine Ob.mk (by first | omega | (intro _ _; rfl) | trivial | (intros; trivial) | assumption | (intro i hi; have h0 : i = 0 := (by omega); subst h0; first | rfl | trivial) | (intro i hi; have h0 : i = 0 ∨ i = 1 := (by omega); rcases h0 with rfl | rfl <;> rfl) | (intro i hi; have h0 : i = 0 ∨ i = 1 ∨ i = 2 := (by omega); rcases h0 with rfl | rfl | rfl <;> rfl)) ?_ | ((first | ((first | refine atF (f := 104) ?_ | refine atQ (f := 104) ?_); refine callPn (Hin := exH p (XA p)) (by unfold exH exR; repeat' (first | exact Hp.le_emp _ | refine Hp.le_upd rfl ?_)) (hf (by assumption)) exH_pM (tup2_scrub _ _ _) (exH_scrub _ _) ?_) | ((first | refine atF (f := 143) ?_ | refine atQ (f := 143) ?_); (first | (refine cFI (hac := implInverse_ok b (by have := hbl (by assumption); omega) (hbl (by assumption)).2 34) (hK := ?_)) | (refine cQI (hac := implInverse_ok b (by have := hbl (by assumption); omega) (hbl (by assumption)).2 34) (hK := ?_)))) | ((first | refine atF (f := 129) ?_ | refine atQ (f := 129) ?_); (first | (refine cFI (hac := implCompose_ok (invp b) a (by have := hbi (by assumption) (by assumption); omega) (hbi (by assumption) (by assumption)).2 36) (hK := ?_)) | (refine cQI (hac := implCompose_ok (invp b) a (by have := hbi (by assumption) (by assumption); omega) (hbi (by assumption) (by assumption)).2 36) (hK := ?_)))) | ((first | refine atF (f := 158) ?_ | refine atQ (f := 158) ?_); refine callPn (Hin := exH p (XA p)) (by unfold exH exR; repeat' (first | exact Hp.le_emp _ | refine Hp.le_upd rfl ?_)) (hat (by assumption) (by assumption) (by assumption)) exH_pM rfl (exH_scrub _ _) ?_)); simp (maxSteps := 1000000) (dsimp := false) (implicitDefEqProofs := false) (disch := omega) only [wrap64, go_sem, pM_low]) | apply_assumption -exfalso -symm)
  all_goals (first | (show endQ _ _ _ _ _ _ _; (repeat (rename (∀ (A : Fr) (H : Hp), AWP _ _ _ _ A H → _) => hK; clear hK)); (repeat (rename (Fr → Hp → Prop) => K; clear K))) | (show Exists _; (repeat (rename (∀ (A : Fr) (H : Hp), AWP _ _ _ _ A H → _) => hK; clear hK)); (repeat (rename (Fr → Hp → Prop) => K; clear K))) | skip)
  · refine end_tup3 rfl (by decide) (by decide) (by decide) (Sub.toL (by simp only [go_sem] <;> first | trivial | (simp only [Option.some.injEq, AV.v.injEq, AV.own.injEq, AV.list.injEq, Value.int.injEq, Value.bool.injEq, true_and, and_true]; first | omega | (simp; done)) | (simp; done) | (simp; omega)) ?_) (.inl ⟨hok (by assumption) (by assumption) (by assumption), rfl, rfl⟩)
    unfold exH exR; repeat' (first | exact Hp.le_emp _ | refine Hp.le_upd rfl ?_)
  · exact end_tup3 rfl (by decide) (by decide) (by decide) (Sub.toL (by simp only [go_sem] <;> first | trivial | (simp only [Option.some.injEq, AV.v.injEq, AV.own.injEq, AV.list.injEq, Value.int.injEq, Value.bool.injEq, true_and, and_true]; first | omega | (simp; done)) | (simp; done) | (simp; omega)) (Hp.le_emp _)) (.inr ⟨fun h => absurd (show isSt p b ∧ b ∈ (XA p).st from ⟨h.2.2.1, h.2.2.2.2⟩) (by assumption), rfl, rfl⟩)
  · exact end_tup3 rfl (by decide) (by decide) (by decide) (Sub.toL (by simp only [go_sem] <;> first | trivial | (simp only [Option.some.injEq, AV.v.injEq, AV.own.injEq, AV.list.injEq, Value.int.injEq, Value.bool.injEq, true_and, and_true]; first | omega | (simp; done)) | (simp; done) | (simp; omega)) (Hp.le_emp _)) (.inr ⟨fun h => absurd (show isSt p a ∧ a ∈ (XA p).st from ⟨h.2.1, h.2.2.2.1⟩) (by assumption), rfl, rfl⟩)
  · exact end_tup3 rfl (by decide) (by decide) (by decide) (Sub.toL (by simp only [go_sem] <;> first | trivial | (simp only [Option.some.injEq, AV.v.injEq, AV.own.injEq, AV.list.injEq, Value.int.injEq, Value.bool.injEq, true_and, and_true]; first | omega | (simp; done)) | (simp; done) | (simp; omega)) (Hp.le_emp _)) (.inr ⟨fun h => absurd h.1 (by rw [(by assumption : (XS p).isSome = false)]; exact Bool.false_ne_true), rfl, rfl⟩)
section
variable {P : Program} {N : Cx} {A : Fr} {H : Hp}
/-- A call of between. -/
theorem callB3 {f : FuncId} {args : List AV} {p : Pz} {a b : List Int} {pn : Nat → Bool} {K : AV → Fr → Hp → Prop} (hac : AC P f args Hp.emp pn (postB p a b)) (hpn : N.pn = fun _ => false)
    (h1 : okB p a b → K (.tup 3 (vecF [.ref 1000000 0, .v (.int .i64 ((((XA p).st.idxOf (comp (invp b) a) : Nat) : Int))), .v (.bool (true))])) (A.scrub pM) (((H.scrub pM).upd 1000000 (.cells 9 (vecF [.v (.int .i64 (p.n)), .v (.string (p.s)), .list false 1 (p.m).length (cM ints [] (p.m)), .list false 1 ((XA p).st).length (cM ints [] ((XA p).st)), .list false 1 ((XA p).dp).length (cM iv 0 ((XA p).dp)), .map 1000003, .dead, .dead, .list false 1 ((XA p).nx).length (cM ints [] ((XA p).nx))]))).upd 1000003 (.mp (mS iv (kvs (XA p).st)))))
    (h2 : ¬ okB p a b → K (.tup 3 (vecF [.v (.pointer none), .v (.int .i64 (0)), .v (.bool (false))])) (A.scrub pM) (H.scrub pM)) : CallG P N f args A H K := by
  refine callHp hac hpn fun r H' hp => ?_
  rcases hp with ⟨hs, rfl, rfl⟩ | ⟨hs, rfl, rfl⟩
  · refine ⟨exH_ge, ?_, exH_scrub p _, ?_⟩
    · have e : liveB (exH p (XA p)) 1000000 = true := rfl
      rw [scrub_tup, scF_vecF]
      simp only [List.map_cons, List.map_nil, AV.scrub, e, Bool.not_true, Bool.false_eq_true, if_false]
    · have e : (exH p (XA p)).add (H.scrub pM) = ((H.scrub pM).upd 1000000 (.cells 9 (exR p (XA p)))).upd 1000003 (.mp (mS iv (kvs (XA p).st))) := by unfold exH; rw [upd_add, upd_add, emp_add]
      rw [e]; exact h1 hs
  · exact ⟨fun h hh => absurd rfl hh, by simp only [scrub_tup, scF_vecF, List.map_cons, List.map_nil, scrub_v], rfl, h2 hs⟩
end
theorem implDistanceBetween_ok (p : Pz) (a b : List Int) (hs0 : p.s.size ≤ 140737488355328) : AC Try.prog 67 [pz p, ints a, ints b] Hp.emp (fun _ => false) (retV (.v (.int .i64 (dbtP p a b)))) := by
  obtain ⟨hb1, hb2⟩ := XA_basic p
  have hlt : okB p a b → (XA p).st.idxOf (comp (invp b) a) < (XA p).dp.length := fun h => by
    have := List.idxOf_lt_length_iff.2 (XA_btw h.1 h.2.2.2.1 h.2.2.2.2)
    omega
  refine ac_of_awp (N := ⟨_, fun _ => false, fun _ _ => rfl⟩) Try.func67 rfl (by kernel_rfl) Try.ntmps67 (by simp) ?_
  simp only [argsFr, List.zipIdx_cons, List.zipIdx_nil, go_sem]
  repeat' (first | (refine Ob.mk (by have := hlt (by assumption); omega) ?_) | ((first | refine atF (f := 119) ?_ | refine atQ (f := 119) ?_); refine callB3 (between_ok p a b hs0) rfl (fun hX => ?_) (fun hX => ?_) <;> simp (maxSteps := 1000000) (dsimp := false) (implicitDefEqProofs := false) (disch := omega) only [wrap64, go_sem, pM_low]) | refine awp_seqK fun K hK => ?_ | (refine awp_regionK 525263 rfl ?_; simp only [List.map_cons, List.map_nil]; simp (maxSteps := 1000000) (dsimp := false) (implicitDefEqProofs := false) (disch := omega) only [wrap64, go_sem, pM_low]) | (refine awp_regionQK 525263 (by kernel_rfl) (by kernel_rfl) (by kernel_rfl) ?_; simp only [List.map_cons, List.map_nil]; simp (maxSteps := 1000000) (dsimp := false) (implicitDefEqProofs := false) (disch := omega) only [wrap64, go_sem, pM_low]) | refine awp_block ?_ | (refine awp_skip ?_; simp only [go_sem, pM_low]) | (refine awp_exit ?_; simp only [go_sem, pM_low]) | (refine awp_ret ?_; try simp only [go_sem, pM_low]) | (refine awp_condP rfl ?_; try simp only [go_sem, pM_low]) | (refine BrP.mk (fun h => ?_) (fun h => ?_) <;> try simp (dsimp := false) (disch := omega) only [wrap64]) | (refine Br.mk (fun h => ?_) (fun h => ?_) <;> try simp (dsimp := false) (disch := omega) only [wrap64]) | refine Ob.mk (by first | omega | (intro _ _; rfl) | trivial | (intros; trivial) | assumption | (intro i hi; have h0 : i = 0 := (by omega); subst h0; first | rfl | trivial) | (intro i hi; have h0 : i = 0 ∨ i = 1 := (by omega); rcases h0 with rfl | rfl <;> rfl) | (intro i hi; have h0 : i = 0 ∨ i = 1 ∨ i = 2 := (by omega); rcases h0 with rfl | rfl | rfl <;> rfl)) ?_ | apply_assumption -exfalso -symm)
  all_goals (first | (show endQ _ _ _ _ _ _ _; (repeat (rename (∀ (A : Fr) (H : Hp), AWP _ _ _ _ A H → _) => hK; clear hK)); (repeat (rename (Fr → Hp → Prop) => K; clear K))) | (show Exists _; (repeat (rename (∀ (A : Fr) (H : Hp), AWP _ _ _ _ A H → _) => hK; clear hK)); (repeat (rename (Fr → Hp → Prop) => K; clear K))) | skip)
  · refine end_retN rfl rfl ?_
    have h := (by assumption : okB p a b)
    unfold dbtP dstP depD
    rw [if_pos h, if_pos ⟨h.1, btw_st h⟩, if_pos (XA_btw h.1 h.2.2.2.1 h.2.2.2.2)]
  · exact end_retN rfl rfl (if_neg (by assumption)).symm
end Go.Proofs.Ytdllbnchcjgcdaa
