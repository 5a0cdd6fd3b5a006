import Derived.Test.YtphpegemhnodcaaQ13
import Derived.Test.YtphpegemhnodcaaQ11
/- Orbits, an orbit, fixed points, transitivity, a shortest word: the program. -/
section
namespace Go.Proofs.Ytphpegemhnodcaa
open Go.Av
set_option linter.unusedSimpArgs false
set_option linter.unusedVariables false
attribute [local irreducible] AWP CallG Ob Br BrP Go.Av.Sub endQ AOps OpV AC thenA blkA opsVC opVC withA withArgs opsQ opQ CallQ withA2 withArgs2
open Go.Pm (Pm Rch img comp invp orbF clsF clsN partK loR)
theorem gens_P {n : Int} {gs : List (List Int)} (h : isGens n gs) : gensP n.toNat gs ∧ gs.length ≤ 1000 ∧ 1 ≤ n ∧ n ≤ 20 ∧ n = ((n.toNat : Nat) : Int) := by
  have h1 := gens_pm h
  exact ⟨.of h, by have := h.2.1; omega, h1.2.1, h1.2.2, by omega⟩
theorem implOrb_I {n : Int} {gs : List (List Int)} (h : isGens n gs) : AC Try.prog 124 [.v (.int .i64 (n)), intss gs] Hp.emp (fun _ => false) (retV (intss (orbP n gs))) := by
  obtain ⟨h1, h2, h3, h4, e⟩ := gens_P h
  have := implOrbitsI_ok n.toNat gs h1 h2
  rw [← e] at this
  unfold orbP; rw [if_pos h]; exact this
theorem implOrbits_ok (n : Int) (gs : List (List Int)) : AC Try.prog 46 [.v (.int .i64 (n)), intss gs] Hp.emp (fun _ => false) (retV (intss (orbP n gs))) := by
  have hA := Hold.mk (fun h => implOrb_I (n := n) (gs := gs) h)
  refine ac_of_awp (N := ⟨_, fun _ => false, fun _ _ => rfl⟩) Try.func46 rfl (by kernel_rfl) Try.ntmps46 (by simp) ?_
  simp only [argsFr, List.zipIdx_cons, List.zipIdx_nil, go_sem]
  repeat' (first | refine awp_seqK fun K hK => ?_ | (refine awp_regionK 275 rfl ?_; simp only [List.map_cons, List.map_nil]; simp (maxSteps := 1000000) (dsimp := false) (implicitDefEqProofs := false) (disch := omega) only [wrap64, go_sem]) | (refine awp_regionQK 275 (by kernel_rfl) (by kernel_rfl) (by kernel_rfl) ?_; simp only [List.map_cons, List.map_nil]; simp (maxSteps := 1000000) (dsimp := false) (implicitDefEqProofs := false) (disch := omega) only [wrap64, go_sem]) | refine awp_block ?_ | (refine awp_skip ?_; simp only [go_sem]) | (refine awp_exit ?_; simp only [go_sem]) | (refine awp_ret ?_; try simp only [go_sem]) | (refine awp_condP rfl ?_; try simp only [go_sem]) | (refine BrP.mk (fun h => ?_) (fun h => ?_) <;> try simp (dsimp := false) (disch := omega) only [wrap64]) | (refine Br.mk (fun h => ?_) (fun h => ?_) <;> try simp (dsimp := false) (disch := omega) only [wrap64]) | refine Ob.mk (by first | omega | (intro _ _; rfl) | trivial | (intros; trivial) | assumption | (intro i hi; have h0 : i = 0 := (by omega); subst h0; first | rfl | trivial) | (intro i hi; have h0 : i = 0 ∨ i = 1 := (by omega); rcases h0 with rfl | rfl <;> rfl) | (intro i hi; have h0 : i = 0 ∨ i = 1 ∨ i = 2 := (by omega); rcases h0 with rfl | rfl | rfl <;> rfl)) ?_ | ((first | ((first | refine atF (f := 49) ?_ | refine atQ (f := 49) ?_); (first | (refine cV (hac := implIsGeneratorSet_ok n gs) (hK := ?_)) | (refine cQV (hac := implIsGeneratorSet_ok n gs) (hK := ?_)))) | (refine cR (hac := hA.h (by assumption)) (hK := ?_)) | (refine cQR (hac := hA.h (by assumption)) (hK := ?_))); simp (maxSteps := 1000000) (dsimp := false) (implicitDefEqProofs := false) (disch := omega) only [wrap64, go_sem]) | apply_assumption -exfalso -symm)
  all_goals (first | (show endQ _ _ _ _ _ _ _; (repeat (rename (∀ (A : Fr) (H : Hp), AWP _ _ _ _ A H → _) => hK; clear hK)); (repeat (rename (Fr → Hp → Prop) => K; clear K))) | (show Exists _; (repeat (rename (∀ (A : Fr) (H : Hp), AWP _ _ _ _ A H → _) => hK; clear hK)); (repeat (rename (Fr → Hp → Prop) => K; clear K))) | skip)
  · exact end_retV rfl rfl
  · rw [show orbP n gs = [] from if_neg (by assumption)]
    exact end_retF rfl rfl (.nil)
theorem implIsTransitive_ok (n : Int) (gs : List (List Int)) : AC Try.prog 50 [.v (.int .i64 (n)), intss gs] Hp.emp (fun _ => false) (retV (.v (.bool (decide ((orbP n gs).length = 1))))) := by
  have hA := Hold.mk (fun h => implOrb_I (n := n) (gs := gs) h)
  refine ac_of_awp (N := ⟨_, fun _ => false, fun _ _ => rfl⟩) Try.func50 rfl (by kernel_rfl) Try.ntmps50 (by simp) ?_
  simp only [argsFr, List.zipIdx_cons, List.zipIdx_nil, go_sem]
  repeat' (first | refine awp_seqK fun K hK => ?_ | (refine awp_regionK 19 rfl ?_; simp only [List.map_cons, List.map_nil]; simp (maxSteps := 1000000) (dsimp := false) (implicitDefEqProofs := false) (disch := omega) only [wrap64, go_sem]) | (refine awp_regionQK 19 (by kernel_rfl) (by kernel_rfl) (by kernel_rfl) ?_; simp only [List.map_cons, List.map_nil]; simp (maxSteps := 1000000) (dsimp := false) (implicitDefEqProofs := false) (disch := omega) only [wrap64, go_sem]) | refine awp_block ?_ | (refine awp_skip ?_; simp only [go_sem]) | (refine awp_exit ?_; simp only [go_sem]) | (refine awp_ret ?_; try simp only [go_sem]) | (refine awp_condP rfl ?_; try simp only [go_sem]) | (refine BrP.mk (fun h => ?_) (fun h => ?_) <;> try simp (dsimp := false) (disch := omega) only [wrap64]) | (refine Br.mk (fun h => ?_) (fun h => ?_) <;> try simp (dsimp := false) (disch := omega) only [wrap64]) | refine Ob.mk (by first | omega | (intro _ _; rfl) | trivial | (intros; trivial) | assumption | (intro i hi; have h0 : i = 0 := (by omega); subst h0; first | rfl | trivial) | (intro i hi; have h0 : i = 0 ∨ i = 1 := (by omega); rcases h0 with rfl | rfl <;> rfl) | (intro i hi; have h0 : i = 0 ∨ i = 1 ∨ i = 2 := (by omega); rcases h0 with rfl | rfl | rfl <;> rfl)) ?_ | ((first | ((first | refine atF (f := 49) ?_ | refine atQ (f := 49) ?_); (first | (refine cV (hac := implIsGeneratorSet_ok n gs) (hK := ?_)) | (refine cQV (hac := implIsGeneratorSet_ok n gs) (hK := ?_)))) | (refine cR (hac := hA.h (by assumption)) (hK := ?_)) | (refine cQR (hac := hA.h (by assumption)) (hK := ?_))); simp (maxSteps := 1000000) (dsimp := false) (implicitDefEqProofs := false) (disch := omega) only [wrap64, go_sem]) | apply_assumption -exfalso -symm)
  all_goals (first | (show endQ _ _ _ _ _ _ _; (repeat (rename (∀ (A : Fr) (H : Hp), AWP _ _ _ _ A H → _) => hK; clear hK)); (repeat (rename (Fr → Hp → Prop) => K; clear K))) | (show Exists _; (repeat (rename (∀ (A : Fr) (H : Hp), AWP _ _ _ _ A H → _) => hK; clear hK)); (repeat (rename (Fr → Hp → Prop) => K; clear K))) | skip)
  · exact end_retB rfl rfl (by rw [decide_eq_true_eq]; omega)
  · rw [show orbP n gs = [] from if_neg (by assumption)]
    exact end_retV rfl rfl
theorem implOrbitP_ok (n : Int) (gs : List (List Int)) (x : Int) (d : Nat) : AC Try.prog 53 [.v (.int .i64 (n)), intss gs, .v (.int .i64 (x))] Hp.emp (fun _ => false) (retI d (obP n gs x)) := by
  have hb : isGens n gs → 1 ≤ n ∧ n ≤ 1000 := fun h => by have := (gens_pm h).2; omega
  have hA : isGens n gs → (0 ≤ x ∧ x ≤ n - 1) → AC Try.prog 130 [.v (.int .i64 (n)), intss gs, .v (.int .i64 (x))] Hp.emp (fun _ => false) (retI 20 (obP n gs x)) := fun h h4 => by
    obtain ⟨h1, h2, h3, h5, e⟩ := gens_P h
    have ex : x = ((x.toNat : Nat) : Int) := by omega
    have := implOrbit_ok n.toNat gs x.toNat h1 (by omega) h2 20
    rw [← e, ← ex] at this
    unfold obP; rw [if_pos ⟨h, h4⟩]; exact this
  have hA := Hold.mk hA
  have hb := Hold.mk hb
  refine ac_of_awp (N := ⟨_, fun _ => false, fun _ _ => rfl⟩) Try.func53 rfl (by kernel_rfl) Try.ntmps53 (by simp) ?_
  simp only [argsFr, List.zipIdx_cons, List.zipIdx_nil, go_sem]
  repeat' (first | refine awp_seqK fun K hK => ?_ | (refine awp_regionK 65607 rfl ?_; simp only [List.map_cons, List.map_nil]; simp (maxSteps := 1000000) (dsimp := false) (implicitDefEqProofs := false) (disch := omega) only [wrap64, go_sem]) | (refine awp_regionQK 65607 (by kernel_rfl) (by kernel_rfl) (by kernel_rfl) ?_; simp only [List.map_cons, List.map_nil]; simp (maxSteps := 1000000) (dsimp := false) (implicitDefEqProofs := false) (disch := omega) only [wrap64, go_sem]) | refine awp_block ?_ | (refine awp_skip ?_; simp only [go_sem]) | (refine awp_exit ?_; simp only [go_sem]) | (refine awp_ret ?_; try simp only [go_sem]) | (refine awp_condP rfl ?_; try simp only [go_sem]) | (refine BrP.mk (fun h => ?_) (fun h => ?_) <;> try simp (dsimp := false) (disch := omega) only [wrap64]) | (refine Br.mk (fun h => ?_) (fun h => ?_) <;> try simp (dsimp := false) (disch := omega) only [wrap64]) | refine Ob.mk (by first | omega | (intro _ _; rfl) | trivial | (intros; trivial) | assumption | (intro i hi; have h0 : i = 0 := (by omega); subst h0; first | rfl | trivial) | (intro i hi; have h0 : i = 0 ∨ i = 1 := (by omega); rcases h0 with rfl | rfl <;> rfl) | (intro i hi; have h0 : i = 0 ∨ i = 1 ∨ i = 2 := (by omega); rcases h0 with rfl | rfl | rfl <;> rfl)) ?_ | ((first | ((first | refine atF (f := 49) ?_ | refine atQ (f := 49) ?_); (first | (refine cV (hac := implIsGeneratorSet_ok n gs) (hK := ?_)) | (refine cQV (hac := implIsGeneratorSet_ok n gs) (hK := ?_)))) | ((first | refine atF (f := 129) ?_ | refine atQ (f := 129) ?_); (first | (refine cV (hac := isPoint_ok n x (hb.h (by assumption))) (hK := ?_)) | (refine cQV (hac := isPoint_ok n x (hb.h (by assumption))) (hK := ?_)))) | (refine cI (hac := hA.h (by assumption) (by assumption)) (hK := ?_)) | (refine cQI (hac := hA.h (by assumption) (by assumption)) (hK := ?_))); simp (maxSteps := 1000000) (dsimp := false) (implicitDefEqProofs := false) (disch := omega) only [wrap64, go_sem]) | apply_assumption -exfalso -symm)
  all_goals (first | (show endQ _ _ _ _ _ _ _; (repeat (rename (∀ (A : Fr) (H : Hp), AWP _ _ _ _ A H → _) => hK; clear hK)); (repeat (rename (Fr → Hp → Prop) => K; clear K))) | (show Exists _; (repeat (rename (∀ (A : Fr) (H : Hp), AWP _ _ _ _ A H → _) => hK; clear hK)); (repeat (rename (Fr → Hp → Prop) => K; clear K))) | skip)
  · (first | refine end_retI' rfl rfl rfl ?_ rfl rfl | refine end_retI_nil' rfl rfl ?_ rfl)
    rfl
  · rw [show obP n gs x = [] from if_neg (fun h => absurd h.2 (by assumption))]
    (first | refine end_retI' rfl rfl rfl ?_ rfl rfl | refine end_retI_nil' rfl rfl ?_ rfl)
    rfl
  · rw [show obP n gs x = [] from if_neg (fun h => absurd h.1 (by assumption))]
    (first | refine end_retI' rfl rfl rfl ?_ rfl rfl | refine end_retI_nil' rfl rfl ?_ rfl)
    rfl
end Go.Proofs.Ytphpegemhnodcaa
end
/- Fixed points and shortest words: the program. -/
section
namespace Go.Proofs.Ytphpegemhnodcaa
open Go.Av
set_option linter.unusedSimpArgs false
set_option linter.unusedVariables false
attribute [local irreducible] AWP CallG Ob Br BrP Go.Av.Sub endQ AOps OpV AC thenA blkA opsVC opVC withA withArgs opsQ opQ CallQ withA2 withArgs2
open Go.Pm (Pm Rch img comp invp orbF clsF clsN partK loR)
/-- The heads of the rows of one point, of the first k. -/
def hdL (rs : List (List Int)) (k : Nat) : List Int := ((rs.take k).filter fun r => decide (r.length = 1)).map fun r => r.getD 0 0
theorem hdL_succ (rs : List (List Int)) (k : Nat) (hk : k < rs.length) : hdL rs (k + 1) = if (rs.getD k []).length = 1 then hdL rs k ++ [(rs.getD k []).getD 0 0] else hdL rs k := by
  have e : rs.getD k [] = rs[k] := by simp [hk]
  unfold hdL
  rw [List.take_succ_eq_append_getElem hk, List.filter_append, List.map_append, e]
  by_cases h : (rs[k]).length = 1
  · rw [if_pos h]; simp only [List.filter_cons, h, decide_true, if_true, List.filter_nil, List.map_cons, List.map_nil]
  · rw [if_neg h]; simp only [List.filter_cons, h, decide_false, Bool.false_eq_true, if_false, List.filter_nil, List.map_nil, List.append_nil]
theorem hdL_len (rs : List (List Int)) (k : Nat) : (hdL rs k).length ≤ k := by
  unfold hdL
  rw [List.length_map]
  have := List.length_filter_le (fun r : List Int => decide (r.length = 1)) (rs.take k)
  rw [List.length_take] at this; omega
theorem hdL_fix {n : Nat} {gs : List (List Int)} (hg : ∀ g ∈ gs, Pm n g) : ∀ k, k ≤ n → hdL (partK n (Rch gs) k) (partK n (Rch gs) k).length = fixK n gs k
  | 0, _ => rfl
  | k + 1, hk => by
    have ih := hdL_fix hg k (by omega)
    have hkm : (k : Int) ∈ orbF n gs k := Go.Pm.mem_clsF.2 ⟨k, rfl, by omega, .refl⟩
    rw [fixK_succ, Go.Pm.partK_succ]
    by_cases hlo : loR (Rch gs) k = true
    · rw [if_pos hlo, List.length_append, List.length_singleton, hdL_succ _ _ (by rw [List.length_append, List.length_singleton]; omega)]
      have e1 : (partK n (Rch gs) k ++ [clsF n (Rch gs) k]).getD (partK n (Rch gs) k).length [] = orbF n gs k := by simp [List.getD_eq_getElem?_getD]
      have e2 : hdL (partK n (Rch gs) k ++ [clsF n (Rch gs) k]) (partK n (Rch gs) k).length = hdL (partK n (Rch gs) k) (partK n (Rch gs) k).length := by
        unfold hdL
        rw [List.take_left, List.take_length]
      rw [e1, e2, ih]
      by_cases h1 : (orbF n gs k).length = 1
      · rw [if_pos h1, if_pos h1]
        obtain ⟨v, ev⟩ := List.length_eq_one_iff.1 h1
        rw [ev] at hkm ⊢
        rw [List.mem_singleton] at hkm
        rw [hkm]; rfl
      · rw [if_neg h1, if_neg h1]
    · rw [if_neg hlo, ih, if_neg fun h1 => ?_]
      obtain ⟨v, ev⟩ := List.length_eq_one_iff.1 h1
      obtain ⟨u, hu, hr⟩ : ∃ u, u < k ∧ Rch gs u k := Classical.byContradiction fun hc => hlo ((Go.Pm.loR_iff _ _).2 fun u hu hr => hc ⟨u, hu, hr⟩)
      have hum : (u : Int) ∈ orbF n gs k := Go.Pm.mem_clsF.2 ⟨u, rfl, by omega, hr.symm hg (by omega)⟩
      rw [ev, List.mem_singleton] at hkm hum
      omega
theorem hdL_fixP (n : Int) (gs : List (List Int)) : hdL (orbP n gs) (orbP n gs).length = fixP n gs := by
  unfold orbP fixP
  split
  · rename_i h; exact hdL_fix (gens_pm h).1 _ (Nat.le_refl _)
  · rfl
theorem implFixedPoints_ok (n : Int) (gs : List (List Int)) (d : Nat) : AC Try.prog 57 [.v (.int .i64 (n)), intss gs] Hp.emp (fun _ => false) (retI d (fixP n gs)) := by
  have hol := orbP_len n gs
  have hfx := hdL_fixP n gs
  have hO := implOrbits_ok n gs
  obtain ⟨rs, ers⟩ : ∃ rs, rs = orbP n gs := ⟨_, rfl⟩
  rw [← ers] at hol hfx hO
  rw [← hfx]
  clear hfx
  refine ac_of_awp (N := ⟨_, fun _ => false, fun _ _ => rfl⟩) Try.func57 rfl (by kernel_rfl) Try.ntmps57 (by simp) ?_
  simp only [argsFr, List.zipIdx_cons, List.zipIdx_nil, go_sem]
  repeat' (first | refine awp_seqK fun K hK => ?_ | (refine awp_regionK 277683 rfl ?_; simp only [List.map_cons, List.map_nil]; simp (maxSteps := 1000000) (dsimp := false) (implicitDefEqProofs := false) (disch := omega) only [wrap64, go_sem]) | (refine awp_regionQK 277683 (by kernel_rfl) (by kernel_rfl) (by kernel_rfl) ?_; simp only [List.map_cons, List.map_nil]; simp (maxSteps := 1000000) (dsimp := false) (implicitDefEqProofs := false) (disch := omega) only [wrap64, go_sem]) | refine awp_block ?_ | (refine awp_skip ?_; simp only [go_sem]) | (refine awp_exit ?_; simp only [go_sem]) | (refine awp_ret ?_; try simp only [go_sem]) | (refine awp_condP rfl ?_; try simp only [go_sem]) | (refine BrP.mk (fun h => ?_) (fun h => ?_) <;> try simp (dsimp := false) (disch := omega) only [wrap64]) | (refine Br.mk (fun h => ?_) (fun h => ?_) <;> try simp (dsimp := false) (disch := omega) only [wrap64]) | refine Ob.mk (by first | omega | (intro _ _; rfl) | trivial | (intros; trivial) | assumption | (intro i hi; have h0 : i = 0 := (by omega); subst h0; first | rfl | trivial) | (intro i hi; have h0 : i = 0 ∨ i = 1 := (by omega); rcases h0 with rfl | rfl <;> rfl) | (intro i hi; have h0 : i = 0 ∨ i = 1 ∨ i = 2 := (by omega); rcases h0 with rfl | rfl | rfl <;> rfl)) ?_ | ((first | (refine cR (hac := hO) (hK := ?_)) | (refine cQR (hac := hO) (hK := ?_))); simp (maxSteps := 1000000) (dsimp := false) (implicitDefEqProofs := false) (disch := omega) only [wrap64, go_sem]) | apply_assumption -exfalso -symm)
  all_goals (first | (show endQ _ _ _ _ _ _ _; (repeat (rename (∀ (A : Fr) (H : Hp), AWP _ _ _ _ A H → _) => hK; clear hK)); (repeat (rename (Fr → Hp → Prop) => K; clear K))) | (show Exists _; (repeat (rename (∀ (A : Fr) (H : Hp), AWP _ _ _ _ A H → _) => hK; clear hK)); (repeat (rename (Fr → Hp → Prop) => K; clear K))) | skip)
  refine awp_loop (ι := Nat) (fun k => [(12, .v (.int .i64 ((k : Nat)))), (11, .v (.int .i64 (rs.length))), (10, .list false 1 (rs).length (cM ints [] (rs))), (5, .own 30 0 1 (hdL rs k).length)]) (fun k => Hp.emp.upd 30 (.cells (hdL rs k).length (cM iv 0 (hdL rs k)))) (fun k => k ≤ rs.length) (fun k => rs.length - k) 0 ?_ (Sub.trans (Sub.nil (i := 5) 30 1 (cM iv 0 []) rfl rfl) (Sub.toL (by simp only [go_sem] <;> first | trivial | (simp only [Option.some.injEq, AV.v.injEq, AV.own.injEq, AV.list.injEq, Value.int.injEq, Value.bool.injEq, true_and, and_true]; first | omega | (simp [hdL]; done)) | (simp [hdL]; done) | (simp [hdL]; omega)) (by (repeat' (first | exact Hp.le_emp _ | exact Hp.le_refl _ | refine Hp.le_upd ?_ ?_)); all_goals (first | rfl | (simp only [go_sem]; first | rfl | (refine cellsE ?_ ?_ <;> (simp [hdL])) | (simp [hdL])))))) ?_
  · exact Nat.zero_le _
  intro k hk
  have hrl := hdL_len rs k
  have hsc := Hold.mk (fun h => hdL_succ rs k h)
  repeat' (first | (show False; omega) | refine awp_seqK fun K hK => ?_ | (refine awp_regionK 277683 rfl ?_; simp only [List.map_cons, List.map_nil]; simp (maxSteps := 1000000) (dsimp := false) (implicitDefEqProofs := false) (disch := omega) only [wrap64, go_sem, tn0]) | (refine awp_regionQK 277683 (by kernel_rfl) (by kernel_rfl) (by kernel_rfl) ?_; simp only [List.map_cons, List.map_nil]; simp (maxSteps := 1000000) (dsimp := false) (implicitDefEqProofs := false) (disch := omega) only [wrap64, go_sem, tn0]) | refine awp_block ?_ | (refine awp_skip ?_; simp only [go_sem, tn0]) | (refine awp_exit ?_; simp only [go_sem, tn0]) | (refine awp_ret ?_; try simp only [go_sem, tn0]) | (refine awp_condP rfl ?_; try simp only [go_sem, tn0]) | (refine BrP.mk (fun h => ?_) (fun h => ?_) <;> try simp (dsimp := false) (disch := omega) only [wrap64]) | (refine Br.mk (fun h => ?_) (fun h => ?_) <;> try simp (dsimp := false) (disch := omega) only [wrap64]) | refine Ob.mk (by first | omega | (intro _ _; rfl) | trivial | (intros; trivial) | assumption | (intro i hi; have h0 : i = 0 := (by omega); subst h0; first | rfl | trivial) | (intro i hi; have h0 : i = 0 ∨ i = 1 := (by omega); rcases h0 with rfl | rfl <;> rfl) | (intro i hi; have h0 : i = 0 ∨ i = 1 ∨ i = 2 := (by omega); rcases h0 with rfl | rfl | rfl <;> rfl)) ?_ | apply_assumption -exfalso -symm)
  all_goals (first | (show endQ _ _ _ _ _ _ _; (repeat (rename (∀ (A : Fr) (H : Hp), AWP _ _ _ _ A H → _) => hK; clear hK)); (repeat (rename (Fr → Hp → Prop) => K; clear K))) | (show Exists _; (repeat (rename (∀ (A : Fr) (H : Hp), AWP _ _ _ _ A H → _) => hK; clear hK)); (repeat (rename (Fr → Hp → Prop) => K; clear K))) | skip)
  · have hs := hsc.h (by omega)
    rw [if_pos (by omega)] at hs
    have l1 : (hdL rs (k + 1)).length = (hdL rs k).length + 1 := by rw [hs, List.length_append, List.length_singleton]
    refine ⟨k + 1, by omega, by omega, ?_⟩
    rw [l1, hs]
    exact Sub.toL (by simp only [go_sem] <;> first | trivial | (simp only [Option.some.injEq, AV.v.injEq, AV.own.injEq, AV.list.injEq, Value.int.injEq, Value.bool.injEq, true_and, and_true]; first | omega | (simp; done)) | (simp; done) | (simp; omega)) (by (repeat' (first | exact Hp.le_emp _ | exact Hp.le_refl _ | refine Hp.le_upd ?_ ?_)); all_goals (first | rfl | (simp only [go_sem]; first | rfl | (refine cellsE ?_ ?_ <;> (simp)) | (simp))))
  · have hs := hsc.h (by omega)
    rw [if_neg (by omega)] at hs
    refine ⟨k + 1, by omega, by omega, ?_⟩
    rw [hs]
    exact Sub.toL (by simp only [go_sem] <;> first | trivial | (simp only [Option.some.injEq, AV.v.injEq, AV.own.injEq, AV.list.injEq, Value.int.injEq, Value.bool.injEq, true_and, and_true]; first | omega | (simp; done)) | (simp; done) | (simp; omega)) (Hp.le_refl _)
  · have e : k = rs.length := by omega
    subst e
    (first | refine end_retI' rfl rfl rfl ?_ rfl rfl | refine end_retI_nil' rfl rfl ?_ rfl)
    rfl
theorem fits_nn {H : Hp} {D : Nat → Prop} (w : List Int) : Fits H D (.list true 1 w.length (cM iv 0 w)) (ints w) := .list (fun h => by cases h) (fun i _ => trivial) (fun i _ => .refl _)
/-- A shortest word from a point to another. -/
theorem implShortest_ok (n : Int) (gs : List (List Int)) (x y : Int) (h : isGens n gs) (hx : 0 ≤ x ∧ x ≤ n - 1) (hy : 0 ≤ y ∧ y ≤ n - 1) : AC Try.prog 55 [.v (.int .i64 (n)), intss gs, .v (.int .i64 (x)), .v (.int .i64 (y))] Hp.emp (fun _ => false) (postX fun r => ∃ ws, WP n.toNat gs x.toNat ws ∧ ((∃ w, ws.getD y.toNat none = some w ∧ r = .tup 2 (vecF [ints w, .v (.bool (true))])) ∨ (ws.getD y.toNat none = none ∧ r = .tup 2 (vecF [ints [], .v (.bool (false))])))) := by
  obtain ⟨h1, h2, h3, h4, e⟩ := gens_P h
  have hd : decide (isGens n gs) = true := decide_eq_true h
  have hdx : decide (0 ≤ x ∧ x ≤ n - 1) = true := decide_eq_true hx
  have hdy : decide (0 ≤ y ∧ y ≤ n - 1) = true := decide_eq_true hy
  have hw0 := wordsFrom_ok n.toNat gs x.toNat h1 (by omega) h2
  rw [show ((x.toNat : Nat) : Int) = x by omega, ← e] at hw0
  have hw0 := Hold.mk hw0
  refine ac_of_awp (N := ⟨_, fun _ => false, fun _ _ => rfl⟩) Try.func55 rfl (by kernel_rfl) Try.ntmps55 (by simp) ?_
  simp only [argsFr, List.zipIdx_cons, List.zipIdx_nil, go_sem]
  repeat' (first | refine awp_seqK fun K hK => ?_ | (refine awp_regionK 67110671 rfl ?_; simp only [List.map_cons, List.map_nil]; simp (maxSteps := 1000000) (dsimp := false) (implicitDefEqProofs := false) (disch := omega) only [wrap64, go_sem, hd, hdx, hdy]) | (refine awp_regionQK 67110671 (by kernel_rfl) (by kernel_rfl) (by kernel_rfl) ?_; simp only [List.map_cons, List.map_nil]; simp (maxSteps := 1000000) (dsimp := false) (implicitDefEqProofs := false) (disch := omega) only [wrap64, go_sem, hd, hdx, hdy]) | refine awp_block ?_ | (refine awp_skip ?_; simp only [go_sem, hd, hdx, hdy]) | (refine awp_exit ?_; simp only [go_sem, hd, hdx, hdy]) | (refine awp_ret ?_; try simp only [go_sem, hd, hdx, hdy]) | (refine awp_condP rfl ?_; try simp only [go_sem, hd, hdx, hdy]) | (refine BrP.mk (fun h => ?_) (fun h => ?_) <;> try simp (dsimp := false) (disch := omega) only [wrap64]) | (refine Br.mk (fun h => ?_) (fun h => ?_) <;> try simp (dsimp := false) (disch := omega) only [wrap64]) | refine Ob.mk (by first | omega | (intro _ _; rfl) | trivial | (intros; trivial) | assumption | (intro i hi; have h0 : i = 0 := (by omega); subst h0; first | rfl | trivial) | (intro i hi; have h0 : i = 0 ∨ i = 1 := (by omega); rcases h0 with rfl | rfl <;> rfl) | (intro i hi; have h0 : i = 0 ∨ i = 1 ∨ i = 2 := (by omega); rcases h0 with rfl | rfl | rfl <;> rfl)) ?_ | ((first | ((first | refine atF (f := 49) ?_ | refine atQ (f := 49) ?_); (first | (refine cV (hac := implIsGeneratorSet_ok n gs) (hK := ?_)) | (refine cQV (hac := implIsGeneratorSet_ok n gs) (hK := ?_)))) | ((first | refine atF (f := 129) ?_ | refine atQ (f := 129) ?_); (first | (refine cV (hac := isPoint_ok n x (by omega)) (hK := ?_)) | (refine cQV (hac := isPoint_ok n x (by omega)) (hK := ?_)))) | ((first | refine atF (f := 129) ?_ | refine atQ (f := 129) ?_); (first | (refine cV (hac := isPoint_ok n y (by omega)) (hK := ?_)) | (refine cQV (hac := isPoint_ok n y (by omega)) (hK := ?_)))) | ((first | refine atF (f := 134) ?_ | refine atQ (f := 134) ?_); refine callW hw0.h (fun ws hws => ?_))); simp (maxSteps := 1000000) (dsimp := false) (implicitDefEqProofs := false) (disch := omega) only [wrap64, go_sem, hd, hdx, hdy]) | apply_assumption -exfalso -symm)
  all_goals (first | (show endQ _ _ _ _ _ _ _; (repeat (rename (∀ (A : Fr) (H : Hp), AWP _ _ _ _ A H → _) => hK; clear hK)); (repeat (rename (Fr → Hp → Prop) => K; clear K))) | (show Exists _; (repeat (rename (∀ (A : Fr) (H : Hp), AWP _ _ _ _ A H → _) => hK; clear hK)); (repeat (rename (Fr → Hp → Prop) => K; clear K))) | skip)
  cases hT : ws.getD y.toNat none with
  | none =>
    have hcT : cM wV none ws y.toNat = .v (.slice none 0 0) := by show wV (ws.getD y.toNat none) = _; rw [hT]; rfl
    simp only [hcT]
    repeat' (first | refine awp_seqK fun K hK => ?_ | (refine awp_regionK 67110671 rfl ?_; simp only [List.map_cons, List.map_nil]; simp (maxSteps := 1000000) (dsimp := false) (implicitDefEqProofs := false) (disch := omega) only [wrap64, go_sem]) | (refine awp_regionQK 67110671 (by kernel_rfl) (by kernel_rfl) (by kernel_rfl) ?_; simp only [List.map_cons, List.map_nil]; simp (maxSteps := 1000000) (dsimp := false) (implicitDefEqProofs := false) (disch := omega) only [wrap64, go_sem]) | refine awp_block ?_ | (refine awp_skip ?_; simp only [go_sem]) | (refine awp_exit ?_; simp only [go_sem]) | (refine awp_ret ?_; try simp only [go_sem]) | (refine awp_condP rfl ?_; try simp only [go_sem]) | (refine BrP.mk (fun h => ?_) (fun h => ?_) <;> try simp (dsimp := false) (disch := omega) only [wrap64]) | (refine Br.mk (fun h => ?_) (fun h => ?_) <;> try simp (dsimp := false) (disch := omega) only [wrap64]) | refine Ob.mk (by first | omega | (intro _ _; rfl) | trivial | (intros; trivial) | assumption | (intro i hi; have h0 : i = 0 := (by omega); subst h0; first | rfl | trivial) | (intro i hi; have h0 : i = 0 ∨ i = 1 := (by omega); rcases h0 with rfl | rfl <;> rfl) | (intro i hi; have h0 : i = 0 ∨ i = 1 ∨ i = 2 := (by omega); rcases h0 with rfl | rfl | rfl <;> rfl)) ?_ | apply_assumption -exfalso -symm)
    all_goals (first | (show endQ _ _ _ _ _ _ _; (repeat (rename (∀ (A : Fr) (H : Hp), AWP _ _ _ _ A H → _) => hK; clear hK)); (repeat (rename (Fr → Hp → Prop) => K; clear K))) | (show Exists _; (repeat (rename (∀ (A : Fr) (H : Hp), AWP _ _ _ _ A H → _) => hK; clear hK)); (repeat (rename (Fr → Hp → Prop) => K; clear K))) | skip)
    exact end_tup2 (H' := Hp.emp) rfl (by decide) (Sub.toFF (fun _ => True) (Fr.fit_cons rfl (.nil) (Fr.fit_cons rfl (.refl _) (Fr.fit_nil _))) leF_emp) ⟨⟨ws, hws, .inr ⟨hT, rfl⟩⟩, rfl⟩
  | some w =>
    have hcT : cM wV none ws y.toNat = .list true 1 w.length (cM iv 0 w) := by show wV (ws.getD y.toNat none) = _; rw [hT]; rfl
    simp only [hcT, Bool.true_or, if_true]
    repeat' (first | refine awp_seqK fun K hK => ?_ | (refine awp_regionK 67110671 rfl ?_; simp only [List.map_cons, List.map_nil]; simp (maxSteps := 1000000) (dsimp := false) (implicitDefEqProofs := false) (disch := omega) only [wrap64, go_sem]) | (refine awp_regionQK 67110671 (by kernel_rfl) (by kernel_rfl) (by kernel_rfl) ?_; simp only [List.map_cons, List.map_nil]; simp (maxSteps := 1000000) (dsimp := false) (implicitDefEqProofs := false) (disch := omega) only [wrap64, go_sem]) | refine awp_block ?_ | (refine awp_skip ?_; simp only [go_sem]) | (refine awp_exit ?_; simp only [go_sem]) | (refine awp_ret ?_; try simp only [go_sem]) | (refine awp_condP rfl ?_; try simp only [go_sem]) | (refine BrP.mk (fun h => ?_) (fun h => ?_) <;> try simp (dsimp := false) (disch := omega) only [wrap64]) | (refine Br.mk (fun h => ?_) (fun h => ?_) <;> try simp (dsimp := false) (disch := omega) only [wrap64]) | refine Ob.mk (by first | omega | (intro _ _; rfl) | trivial | (intros; trivial) | assumption | (intro i hi; have h0 : i = 0 := (by omega); subst h0; first | rfl | trivial) | (intro i hi; have h0 : i = 0 ∨ i = 1 := (by omega); rcases h0 with rfl | rfl <;> rfl) | (intro i hi; have h0 : i = 0 ∨ i = 1 ∨ i = 2 := (by omega); rcases h0 with rfl | rfl | rfl <;> rfl)) ?_ | apply_assumption -exfalso -symm)
    all_goals (first | (show endQ _ _ _ _ _ _ _; (repeat (rename (∀ (A : Fr) (H : Hp), AWP _ _ _ _ A H → _) => hK; clear hK)); (repeat (rename (Fr → Hp → Prop) => K; clear K))) | (show Exists _; (repeat (rename (∀ (A : Fr) (H : Hp), AWP _ _ _ _ A H → _) => hK; clear hK)); (repeat (rename (Fr → Hp → Prop) => K; clear K))) | skip)
    exact end_tup2 (H' := Hp.emp) rfl (by decide) (Sub.toFF (fun _ => True) (Fr.fit_cons rfl (fits_nn w) (Fr.fit_cons rfl (.refl _) (Fr.fit_nil _))) leF_emp) ⟨⟨ws, hws, .inl ⟨w, hT, rfl⟩⟩, rfl⟩
end Go.Proofs.Ytphpegemhnodcaa
end
/- Lists of lists alike; groups that are drawn. -/
section
namespace Go.Proofs.Ytphpegemhnodcaa
open Go.Av
set_option linter.unusedSimpArgs false
set_option linter.unusedVariables false
attribute [local irreducible] AWP CallG Ob Br BrP Go.Av.Sub endQ AOps OpV AC thenA blkA opsVC opVC withA withArgs opsQ opQ CallQ withA2 withArgs2
open Go.Pm (Pm Rch img comp invp orbF clsF clsN partK loR)
theorem likeLists_ok (xs ys : List (List Int)) (hl : xs.length ≤ 1000000) (hb : ∀ j, (xs.getD j []).length ≤ 1000000) : AC Try.prog 43 [intss xs, intss ys] Hp.emp (fun _ => false) (retV (.v (.bool (decide (xs = ys))))) := by
  have hb := Hold.mk hb
  refine ac_of_awp (N := ⟨_, fun _ => false, fun _ _ => rfl⟩) Try.func43 rfl (by kernel_rfl) Try.ntmps43 (by simp) ?_
  simp only [argsFr, List.zipIdx_cons, List.zipIdx_nil, go_sem]
  repeat' (first | refine awp_seqK fun K hK => ?_ | (refine awp_regionK 67126323 rfl ?_; simp only [List.map_cons, List.map_nil]; simp (maxSteps := 1000000) (dsimp := false) (implicitDefEqProofs := false) (disch := omega) only [wrap64, go_sem]) | (refine awp_regionQK 67126323 (by kernel_rfl) (by kernel_rfl) (by kernel_rfl) ?_; simp only [List.map_cons, List.map_nil]; simp (maxSteps := 1000000) (dsimp := false) (implicitDefEqProofs := false) (disch := omega) only [wrap64, go_sem]) | refine awp_block ?_ | (refine awp_skip ?_; simp only [go_sem]) | (refine awp_exit ?_; simp only [go_sem]) | (refine awp_ret ?_; try simp only [go_sem]) | (refine awp_condP rfl ?_; try simp only [go_sem]) | (refine BrP.mk (fun h => ?_) (fun h => ?_) <;> try simp (dsimp := false) (disch := omega) only [wrap64]) | (refine Br.mk (fun h => ?_) (fun h => ?_) <;> try simp (dsimp := false) (disch := omega) only [wrap64]) | refine Ob.mk (by first | omega | (intro _ _; rfl) | trivial | (intros; trivial) | assumption | (intro i hi; have h0 : i = 0 := (by omega); subst h0; first | rfl | trivial) | (intro i hi; have h0 : i = 0 ∨ i = 1 := (by omega); rcases h0 with rfl | rfl <;> rfl) | (intro i hi; have h0 : i = 0 ∨ i = 1 ∨ i = 2 := (by omega); rcases h0 with rfl | rfl | rfl <;> rfl)) ?_ | apply_assumption -exfalso -symm)
  all_goals (first | (show endQ _ _ _ _ _ _ _; (repeat (rename (∀ (A : Fr) (H : Hp), AWP _ _ _ _ A H → _) => hK; clear hK)); (repeat (rename (Fr → Hp → Prop) => K; clear K))) | (show Exists _; (repeat (rename (∀ (A : Fr) (H : Hp), AWP _ _ _ _ A H → _) => hK; clear hK)); (repeat (rename (Fr → Hp → Prop) => K; clear K))) | skip)
  · have hl : xs.length = ys.length := by omega
    refine awp_loop (ι := Nat) (fun k => [(5, .v (.int .i64 ((k : Nat)))), (0, .list false 1 (xs).length (cM ints [] (xs))), (1, .list false 1 (ys).length (cM ints [] (ys)))]) (fun k => Hp.emp) (fun k => k ≤ xs.length ∧ Hold (∀ j, j < k → xs.getD j [] = ys.getD j [])) (fun k => xs.length - k) 0 ?_ (Sub.toL (by simp only [go_sem] <;> first | trivial | (simp only [Option.some.injEq, AV.v.injEq, AV.own.injEq, AV.list.injEq, Value.int.injEq, Value.bool.injEq, true_and, and_true]; first | omega | (simp; done)) | (simp; done) | (simp; omega)) (by (repeat' (first | exact Hp.le_emp _ | exact Hp.le_refl _ | refine Hp.le_upd ?_ ?_)); all_goals (first | rfl | (simp only [go_sem]; first | rfl | (refine cellsE ?_ ?_ <;> (simp)) | (simp))))) ?_
    · exact ⟨Nat.zero_le _, ⟨fun j h => absurd h (Nat.not_lt_zero _)⟩⟩
    rintro k ⟨hk, he⟩
    have hbk := hb.h k
    repeat' (first | refine awp_seqK fun K hK => ?_ | (refine awp_regionK 67126323 rfl ?_; simp only [List.map_cons, List.map_nil]; simp (maxSteps := 1000000) (dsimp := false) (implicitDefEqProofs := false) (disch := omega) only [wrap64, go_sem]) | (refine awp_regionQK 67126323 (by kernel_rfl) (by kernel_rfl) (by kernel_rfl) ?_; simp only [List.map_cons, List.map_nil]; simp (maxSteps := 1000000) (dsimp := false) (implicitDefEqProofs := false) (disch := omega) only [wrap64, go_sem]) | refine awp_block ?_ | (refine awp_skip ?_; simp only [go_sem]) | (refine awp_exit ?_; simp only [go_sem]) | (refine awp_ret ?_; try simp only [go_sem]) | (refine awp_condP rfl ?_; try simp only [go_sem]) | (refine BrP.mk (fun h => ?_) (fun h => ?_) <;> try simp (dsimp := false) (disch := omega) only [wrap64]) | (refine Br.mk (fun h => ?_) (fun h => ?_) <;> try simp (dsimp := false) (disch := omega) only [wrap64]) | refine Ob.mk (by first | omega | (intro _ _; rfl) | trivial | (intros; trivial) | assumption | (intro i hi; have h0 : i = 0 := (by omega); subst h0; first | rfl | trivial) | (intro i hi; have h0 : i = 0 ∨ i = 1 := (by omega); rcases h0 with rfl | rfl <;> rfl) | (intro i hi; have h0 : i = 0 ∨ i = 1 ∨ i = 2 := (by omega); rcases h0 with rfl | rfl | rfl <;> rfl)) ?_ | ((first | ((first | refine atF (f := 31) ?_ | refine atQ (f := 31) ?_); (first | (refine cV (hac := likeInts_ok (xs.getD k []) (ys.getD k []) (by omega)) (hK := ?_)) | (refine cQV (hac := likeInts_ok (xs.getD k []) (ys.getD k []) (by omega)) (hK := ?_))))); simp (maxSteps := 1000000) (dsimp := false) (implicitDefEqProofs := false) (disch := omega) only [wrap64, go_sem]) | apply_assumption -exfalso -symm)
    all_goals (first | (show endQ _ _ _ _ _ _ _; (repeat (rename (∀ (A : Fr) (H : Hp), AWP _ _ _ _ A H → _) => hK; clear hK)); (repeat (rename (Fr → Hp → Prop) => K; clear K))) | (show Exists _; (repeat (rename (∀ (A : Fr) (H : Hp), AWP _ _ _ _ A H → _) => hK; clear hK)); (repeat (rename (Fr → Hp → Prop) => K; clear K))) | skip)
    · refine ⟨k + 1, ⟨by omega, ⟨fun j hj => ?_⟩⟩, by omega, Sub.toL (by simp only [go_sem] <;> first | trivial | (simp only [Option.some.injEq, AV.v.injEq, AV.own.injEq, AV.list.injEq, Value.int.injEq, Value.bool.injEq, true_and, and_true]; first | omega | (simp; done)) | (simp; done) | (simp; omega)) (Hp.le_refl _)⟩
      by_cases h' : j = k
      · subst h'; assumption
      · exact he.h j (by omega)
    · refine end_retB rfl rfl ?_
      simp only [Bool.false_eq_true, false_iff]
      rintro rfl
      exact absurd rfl ‹¬_›
    · refine end_retB rfl rfl ?_
      simp only [true_iff]
      refine List.ext_getElem hl fun j h1 h2 => ?_
      have := he.h j (by omega)
      simpa [List.getD_eq_getElem?_getD, h1, h2] using this
  · exact end_retB rfl rfl (by simp; rintro rfl; simp at h)
theorem drawOrbits_ok (xs : List Int) (hx : ∀ j, 0 ≤ xs.getD j 0 ∧ xs.getD j 0 ≤ 255) (hl : xs.length ≤ 4096) : AC Try.prog 48 [bts xs] Hp.emp (fun _ => false) (postX fun r => ∃ q : Int × List (List Int), grQ q.1 q.2 ∧ r = .tup 2 (vecF [.v (.int .i64 (q.1)), intss q.2])) := by
  refine ac_of_awp (N := ⟨_, fun _ => false, fun _ _ => rfl⟩) Try.func48 rfl (by kernel_rfl) Try.ntmps48 (by simp) ?_
  simp only [argsFr, List.zipIdx_cons, List.zipIdx_nil, go_sem]
  repeat' (first | ((first | refine atF (f := 98) ?_ | refine atQ (f := 98) ?_); (refine callRoll (newSource_ok xs hx hl) rfl (fun d0 => ?_)) <;> simp (maxSteps := 1000000) (dsimp := false) (implicitDefEqProofs := false) (disch := omega) only [wrap64, go_sem]) | ((first | refine atF (f := 121) ?_ | refine atQ (f := 121) ?_); (refine callD (by rfl) (drawGroup_ok _) (by rintro _ ⟨v, _, rfl⟩ p; simp only [scrub_tup, scF_vecF, List.map_cons, List.map_nil]; rfl) (fun r d1 hq => ?_); obtain ⟨⟨n, gs⟩, hg, rfl⟩ := hq) <;> simp (maxSteps := 1000000) (dsimp := false) (implicitDefEqProofs := false) (disch := omega) only [wrap64, go_sem]) | refine awp_seqK fun K hK => ?_ | (refine awp_regionK 29 rfl ?_; simp only [List.map_cons, List.map_nil]; simp (maxSteps := 1000000) (dsimp := false) (implicitDefEqProofs := false) (disch := omega) only [wrap64, go_sem]) | (refine awp_regionQK 29 (by kernel_rfl) (by kernel_rfl) (by kernel_rfl) ?_; simp only [List.map_cons, List.map_nil]; simp (maxSteps := 1000000) (dsimp := false) (implicitDefEqProofs := false) (disch := omega) only [wrap64, go_sem]) | refine awp_block ?_ | (refine awp_skip ?_; simp only [go_sem]) | (refine awp_exit ?_; simp only [go_sem]) | (refine awp_ret ?_; try simp only [go_sem]) | (refine awp_condP rfl ?_; try simp only [go_sem]) | (refine BrP.mk (fun h => ?_) (fun h => ?_) <;> try simp (dsimp := false) (disch := omega) only [wrap64]) | (refine Br.mk (fun h => ?_) (fun h => ?_) <;> try simp (dsimp := false) (disch := omega) only [wrap64]) | refine Ob.mk (by first | omega | (intro _ _; rfl) | trivial | (intros; trivial) | assumption | (intro i hi; have h0 : i = 0 := (by omega); subst h0; first | rfl | trivial) | (intro i hi; have h0 : i = 0 ∨ i = 1 := (by omega); rcases h0 with rfl | rfl <;> rfl) | (intro i hi; have h0 : i = 0 ∨ i = 1 ∨ i = 2 := (by omega); rcases h0 with rfl | rfl | rfl <;> rfl)) ?_ | apply_assumption -exfalso -symm)
  all_goals (first | (show endQ _ _ _ _ _ _ _; (repeat (rename (∀ (A : Fr) (H : Hp), AWP _ _ _ _ A H → _) => hK; clear hK)); (repeat (rename (Fr → Hp → Prop) => K; clear K))) | (show Exists _; (repeat (rename (∀ (A : Fr) (H : Hp), AWP _ _ _ _ A H → _) => hK; clear hK)); (repeat (rename (Fr → Hp → Prop) => K; clear K))) | skip)
  exact end_X2 rfl (by decide) rfl rfl (.refl _) (.refl _) ⟨(n, gs), hg, rfl⟩
end Go.Proofs.Ytphpegemhnodcaa
end
