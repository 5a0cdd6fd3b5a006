import Derived.Test.YtfgblelbhlpfjaaT9
import Derived.Test.YtfgblelbhlpfjaaAv21
namespace Go.Proofs.Ytfgblelbhlpfjaa
open Go.Av
set_option linter.unusedSimpArgs false
set_option linter.unusedVariables false
attribute [local irreducible] AWP CallG Ob Br BrP Go.Av.Sub endQ AOps OpV AC thenA blkA opsVC opVC withA withArgs opsQ opQ CallQ withA2 withArgs2

/- rows of rows of our own -/
theorem PR_zero (d n : Nat) (xss : List (List Int)) : Hp.le (PR d xss 0 n) (Hp.emp.upd d (.cells n (zF [.slice none 0 0]))) := by
  intro g B hB
  unfold PR at hB
  split at hB
  · rename_i e
    subst e
    simp only [Option.some.injEq] at hB
    subst hB
    simp only [Hp.upd, if_true, Option.some.injEq]
    congr 1
    funext i
    simp [zF, mixF, Nat.mod_one]
  · simp at hB

theorem toInt64SS_own (xss : List (List Int)) (hx : xss.length ≤ 1048576) (hb : ∀ j, (xss.getD j []).length ≤ 1048576) (d : Nat) (hd : d < 2097152) : AC Try.prog 111 [intss xss] Hp.emp (fun _ => false) (retII d xss) := by
  refine AC.famI (d0 := 7) ?_ d (by rw [FB_eq]; omega) hd (by rw [FB_eq]; omega) (fun _ => rfl)
  refine ac_of_awp (N := ⟨_, fun _ => false, fun _ _ => rfl⟩) Try.func111 rfl (by kernel_rfl) Try.ntmps111 (by simp) ?_
  simp only [argsFr, List.zipIdx_cons, List.zipIdx_nil, go_sem, ints, intss, pz, iv, sv, bv, Nat.reduceAdd]
  repeat' (first | refine awp_seqK fun K hK => ?_ | (refine awp_regionK 2077 rfl ?_; simp only [List.map_cons, List.map_nil]; simp (maxSteps := 1000000) (dsimp := false) (implicitDefEqProofs := false) (disch := omega) only [wrap64, go_sem, ints, intss, pz, iv, bv, sv, Nat.reducePow, Nat.reduceDiv, Nat.reduceMod, ↓reduceIte, Nat.reduceEqDiff, Nat.reduceAdd, reduceCtorEq, Nat.reduceBEq, Nat.reduceLT]) | (refine awp_regionQK 2077 (by kernel_rfl) (by kernel_rfl) (by kernel_rfl) ?_; simp only [List.map_cons, List.map_nil]; simp (maxSteps := 1000000) (dsimp := false) (implicitDefEqProofs := false) (disch := omega) only [wrap64, go_sem, ints, intss, pz, iv, bv, sv, Nat.reducePow, Nat.reduceDiv, Nat.reduceMod, ↓reduceIte, Nat.reduceEqDiff, Nat.reduceAdd, reduceCtorEq, Nat.reduceBEq, Nat.reduceLT]) | refine awp_block ?_ | (refine awp_skip ?_; simp only [go_sem, ints, intss, pz, iv, bv, sv, Nat.reducePow, Nat.reduceDiv, Nat.reduceMod, ↓reduceIte, Nat.reduceEqDiff, Nat.reduceAdd, reduceCtorEq, Nat.reduceBEq, Nat.reduceLT]) | (refine awp_exit ?_; simp only [go_sem, ints, intss, pz, iv, bv, sv, Nat.reducePow, Nat.reduceDiv, Nat.reduceMod, ↓reduceIte, Nat.reduceEqDiff, Nat.reduceAdd, reduceCtorEq, Nat.reduceBEq, Nat.reduceLT]) | (refine awp_ret ?_; try simp only [go_sem, ints, intss, pz, iv, bv, sv, Nat.reducePow, Nat.reduceDiv, Nat.reduceMod, ↓reduceIte, Nat.reduceEqDiff, Nat.reduceAdd, reduceCtorEq, Nat.reduceBEq, Nat.reduceLT]) | (refine awp_condP rfl ?_; try simp only [go_sem, ints, intss, pz, iv, bv, sv, Nat.reducePow, Nat.reduceDiv, Nat.reduceMod, ↓reduceIte, Nat.reduceEqDiff, Nat.reduceAdd, reduceCtorEq, Nat.reduceBEq, Nat.reduceLT]) | (refine BrP.mk (fun h => ?_) (fun h => ?_) <;> try simp (dsimp := false) (disch := omega) only [wrap64]) | (refine Br.mk (fun h => ?_) (fun h => ?_) <;> try simp (dsimp := false) (disch := omega) only [wrap64]) | refine Ob.mk (by first | omega | (intro _ _; rfl) | trivial | (intros; trivial) | assumption | (intro i hi; have h0 : i = 0 ∨ i = 1 := (by omega); rcases h0 with rfl | rfl <;> rfl) | (intro i hi; have h0 : i = 0 ∨ i = 1 ∨ i = 2 := (by omega); rcases h0 with rfl | rfl | rfl <;> rfl)) ?_ | apply_assumption -exfalso -symm)
  all_goals (first | (show endQ _ _ _ _ _ _ _; (repeat (rename (∀ (A : Fr) (H : Hp), AWP _ _ _ _ A H → _) => hK; clear hK)); (repeat (rename (Fr → Hp → Prop) => K; clear K))) | (show Exists _; (repeat (rename (∀ (A : Fr) (H : Hp), AWP _ _ _ _ A H → _) => hK; clear hK)); (repeat (rename (Fr → Hp → Prop) => K; clear K))) | skip)
  refine awp_loop (ι := Nat) (fun k => [(4, .v (.int .i64 (k))), (3, .own 7 0 1 xss.length), (0, .list false 1 (xss).length (cM ints [] (xss)))]) (fun k => PR 7 xss k xss.length) (fun k => k ≤ xss.length) (fun k => xss.length - k) 0 (Nat.zero_le _) (Sub.toL (by simp only [go_sem, ints, intss, pz, iv, bv, sv, Nat.reducePow, Nat.reduceDiv, Nat.reduceMod, ↓reduceIte, Nat.reduceEqDiff, Nat.reduceAdd, reduceCtorEq, Nat.reduceBEq, Nat.reduceLT]; trivial) (PR_zero _ _ _)) ?_
  intro k hk
  have hps : ∀ n, (PR 7 xss n xss.length).scrub (· == 20) = PR 7 xss n xss.length := fun n => PR_scrub (by omega)
  repeat' (first | refine awp_seqK fun K hK => ?_ | (refine awp_regionK 2077 rfl ?_; simp only [List.map_cons, List.map_nil]; simp (maxSteps := 1000000) (dsimp := false) (implicitDefEqProofs := false) (disch := omega) only [wrap64, go_sem, ints, intss, pz, iv, bv, sv, Nat.reducePow, Nat.reduceDiv, Nat.reduceMod, ↓reduceIte, Nat.reduceEqDiff, Nat.reduceAdd, reduceCtorEq, Nat.reduceBEq, Nat.reduceLT, hps, PR_self]) | (refine awp_regionQK 2077 (by kernel_rfl) (by kernel_rfl) (by kernel_rfl) ?_; simp only [List.map_cons, List.map_nil]; simp (maxSteps := 1000000) (dsimp := false) (implicitDefEqProofs := false) (disch := omega) only [wrap64, go_sem, ints, intss, pz, iv, bv, sv, Nat.reducePow, Nat.reduceDiv, Nat.reduceMod, ↓reduceIte, Nat.reduceEqDiff, Nat.reduceAdd, reduceCtorEq, Nat.reduceBEq, Nat.reduceLT, hps, PR_self]) | refine awp_block ?_ | (refine awp_skip ?_; simp only [go_sem, ints, intss, pz, iv, bv, sv, Nat.reducePow, Nat.reduceDiv, Nat.reduceMod, ↓reduceIte, Nat.reduceEqDiff, Nat.reduceAdd, reduceCtorEq, Nat.reduceBEq, Nat.reduceLT, hps, PR_self]) | (refine awp_exit ?_; simp only [go_sem, ints, intss, pz, iv, bv, sv, Nat.reducePow, Nat.reduceDiv, Nat.reduceMod, ↓reduceIte, Nat.reduceEqDiff, Nat.reduceAdd, reduceCtorEq, Nat.reduceBEq, Nat.reduceLT, hps, PR_self]) | (refine awp_ret ?_; try simp only [go_sem, ints, intss, pz, iv, bv, sv, Nat.reducePow, Nat.reduceDiv, Nat.reduceMod, ↓reduceIte, Nat.reduceEqDiff, Nat.reduceAdd, reduceCtorEq, Nat.reduceBEq, Nat.reduceLT, hps, PR_self]) | (refine awp_condP rfl ?_; try simp only [go_sem, ints, intss, pz, iv, bv, sv, Nat.reducePow, Nat.reduceDiv, Nat.reduceMod, ↓reduceIte, Nat.reduceEqDiff, Nat.reduceAdd, reduceCtorEq, Nat.reduceBEq, Nat.reduceLT, hps, PR_self]) | (refine BrP.mk (fun h => ?_) (fun h => ?_) <;> try simp (dsimp := false) (disch := omega) only [wrap64]) | (refine Br.mk (fun h => ?_) (fun h => ?_) <;> try simp (dsimp := false) (disch := omega) only [wrap64]) | refine Ob.mk (by first | omega | (intro _ _; rfl) | trivial | (intros; trivial) | assumption | (intro i hi; have h0 : i = 0 ∨ i = 1 := (by omega); rcases h0 with rfl | rfl <;> rfl) | (intro i hi; have h0 : i = 0 ∨ i = 1 ∨ i = 2 := (by omega); rcases h0 with rfl | rfl | rfl <;> rfl)) ?_ | ((first | ((first | refine atF (f := 22) ?_ | refine atQ (f := 22) ?_); (first | (refine cI (hac := toInt64S_ok _ (hb _) 20) (hK := ?_)) | (refine cQI (hac := toInt64S_ok _ (hb _) 20) (hK := ?_))))); simp (maxSteps := 1000000) (dsimp := false) (implicitDefEqProofs := false) (disch := omega) only [wrap64, go_sem, ints, intss, pz, iv, bv, sv, Nat.reducePow, Nat.reduceDiv, Nat.reduceMod, ↓reduceIte, Nat.reduceEqDiff, Nat.reduceAdd, reduceCtorEq, Nat.reduceBEq, Nat.reduceLT, hps, PR_self]) | apply_assumption -exfalso -symm)
  all_goals (first | (show endQ _ _ _ _ _ _ _; (repeat (rename (∀ (A : Fr) (H : Hp), AWP _ _ _ _ A H → _) => hK; clear hK)); (repeat (rename (Fr → Hp → Prop) => K; clear K))) | (show Exists _; (repeat (rename (∀ (A : Fr) (H : Hp), AWP _ _ _ _ A H → _) => hK; clear hK)); (repeat (rename (Fr → Hp → Prop) => K; clear K))) | skip)
  · refine ⟨k + 1, by omega, by omega, ?_⟩
    rw [← Hp.emp_add 7 (k + 1) xss.length xss]
    exact Sub.absorb (d := 7) (e := 20) (k := k) (n := xss.length) (xss := xss) (H' := Hp.emp) (by omega) (by omega) (by omega) (by omega) (by omega) rfl (by first | rfl | (simp (disch := omega) only [Hp.upd_app, add_lit, add_self, PR_self, PR_lit, Nat.reduceEqDiff, ↓reduceIte]; first | done | rfl)) (fun i hi => by simp [setF, apF]; try omega) (by first | rfl | (simp (disch := omega) only [Hp.upd_app, add_lit, add_self, PR_self, PR_lit, Nat.reduceEqDiff, ↓reduceIte]; first | done | rfl)) (fun i hi => by have hge := sub_ge 7 i; rw [FB_eq] at hge; simp (disch := omega) only [Hp.upd_app, if_neg]; first | exact PR_sub (by rw [FB_eq]; omega) (by omega) (by rw [FB_eq]; omega) | exact add_sub (by rw [FB_eq]; omega) (by omega) (by rw [FB_eq]; omega)) (by simp only [go_sem, ints, intss, pz, iv, bv, sv, Nat.reducePow, Nat.reduceDiv, Nat.reduceMod, ↓reduceIte, Nat.reduceEqDiff, Nat.reduceAdd, reduceCtorEq, Nat.reduceBEq, Nat.reduceLT] <;> first | trivial | (simp only [Option.some.injEq, AV.v.injEq, AV.own.injEq, AV.list.injEq, Value.int.injEq, Value.bool.injEq, true_and, and_true]; first | omega | (simp; done)) | (simp; done) | (simp; omega)) (by simp only [Fr.low, AV.low, and_true, true_and]; first | done | omega | trivial) (fun g B hB => by simp [Hp.emp] at hB)
  · have e : k = xss.length := by omega
    subst e
    exact end_retII rfl rfl rfl (Hp.le_refl _)

theorem toPuzzle_own (p : Pz) (hx : p.m.length ≤ 1048576) (hb : ∀ j, (p.m.getD j []).length ≤ 1048576) (d : Nat) (hd : d < 2097152) : AC Try.prog 34 [pz p] Hp.emp (fun _ => false) (retR d (pzo p d) p.m) := by
  refine AC.famR (d0 := 700) (a := pzo p) ?_ d (by omega) hd (by omega) (fun ρ => by simp only [List.map_cons, List.map_nil, pz_ren]) (fun ρ => pzo_ren p 700 ρ)
  refine ac_of_awp (N := ⟨_, fun _ => false, fun _ _ => rfl⟩) Try.func34 rfl (by kernel_rfl) Try.ntmps34 (by simp) ?_
  simp only [argsFr, List.zipIdx_cons, List.zipIdx_nil, go_sem, ints, intss, pz, iv, sv, bv, Nat.reduceAdd]
  repeat' (first | refine awp_seqK fun K hK => ?_ | (refine awp_regionK 15 rfl ?_; simp only [List.map_cons, List.map_nil]; simp (maxSteps := 1000000) (dsimp := false) (implicitDefEqProofs := false) (disch := omega) only [wrap64, go_sem, ints, intss, pz, iv, bv, sv, Nat.reducePow, Nat.reduceDiv, Nat.reduceMod, ↓reduceIte, Nat.reduceEqDiff, Nat.reduceAdd, reduceCtorEq, Nat.reduceBEq, Nat.reduceLT]) | (refine awp_regionQK 15 (by kernel_rfl) (by kernel_rfl) (by kernel_rfl) ?_; simp only [List.map_cons, List.map_nil]; simp (maxSteps := 1000000) (dsimp := false) (implicitDefEqProofs := false) (disch := omega) only [wrap64, go_sem, ints, intss, pz, iv, bv, sv, Nat.reducePow, Nat.reduceDiv, Nat.reduceMod, ↓reduceIte, Nat.reduceEqDiff, Nat.reduceAdd, reduceCtorEq, Nat.reduceBEq, Nat.reduceLT]) | refine awp_block ?_ | (refine awp_skip ?_; simp only [go_sem, ints, intss, pz, iv, bv, sv, Nat.reducePow, Nat.reduceDiv, Nat.reduceMod, ↓reduceIte, Nat.reduceEqDiff, Nat.reduceAdd, reduceCtorEq, Nat.reduceBEq, Nat.reduceLT]) | (refine awp_exit ?_; simp only [go_sem, ints, intss, pz, iv, bv, sv, Nat.reducePow, Nat.reduceDiv, Nat.reduceMod, ↓reduceIte, Nat.reduceEqDiff, Nat.reduceAdd, reduceCtorEq, Nat.reduceBEq, Nat.reduceLT]) | (refine awp_ret ?_; try simp only [go_sem, ints, intss, pz, iv, bv, sv, Nat.reducePow, Nat.reduceDiv, Nat.reduceMod, ↓reduceIte, Nat.reduceEqDiff, Nat.reduceAdd, reduceCtorEq, Nat.reduceBEq, Nat.reduceLT]) | (refine awp_condP rfl ?_; try simp only [go_sem, ints, intss, pz, iv, bv, sv, Nat.reducePow, Nat.reduceDiv, Nat.reduceMod, ↓reduceIte, Nat.reduceEqDiff, Nat.reduceAdd, reduceCtorEq, Nat.reduceBEq, Nat.reduceLT]) | (refine BrP.mk (fun h => ?_) (fun h => ?_) <;> try simp (dsimp := false) (disch := omega) only [wrap64]) | (refine Br.mk (fun h => ?_) (fun h => ?_) <;> try simp (dsimp := false) (disch := omega) only [wrap64]) | refine Ob.mk (by first | omega | (intro _ _; rfl) | trivial | (intros; trivial) | assumption | (intro i hi; have h0 : i = 0 ∨ i = 1 := (by omega); rcases h0 with rfl | rfl <;> rfl) | (intro i hi; have h0 : i = 0 ∨ i = 1 ∨ i = 2 := (by omega); rcases h0 with rfl | rfl | rfl <;> rfl)) ?_ | ((first | (refine callII (by (repeat' (first | exact FitsL.nil | exact Fits.refl _ | exact fits_I rfl trivial rfl rfl | exact fits_P rfl trivial rfl (by decide) | exact fits_T (by omega) (by omega) | exact fits_ref1 rfl trivial (by decide) trivial | exact FitsL.refl _ | refine fits_clo1 ?_ | refine FitsL.cons ?_ ?_ | refine Fits.clo (fun i _ => ?_) | exact fits_N rfl trivial | exact fits_I (by simp (disch := omega) only [go_sem, add_lit, Nat.reduceEqDiff, ↓reduceIte]) trivial rfl rfl | exact fits_pz (by (repeat' (first | exact HasRR.base (by omega) (by first | omega | assumption | (have := szP_len (by assumption); omega)) | exact HasRR.bare (by omega) (by first | omega | assumption) | refine HasRR.upd (by decide) (by decide) ?_ | refine HasRR.add (by decide) (by decide) (by first | omega | (have := szP_len (by assumption); omega)) (by decide) ?_)); first | done | fail) trivial (fun _ => trivial) | exact fits_RR (by (repeat' (first | exact HasRR.base (by omega) (by first | omega | assumption | (have := szP_len (by assumption); omega)) | exact HasRR.bare (by omega) (by first | omega | assumption) | refine HasRR.upd (by decide) (by decide) ?_ | refine HasRR.add (by decide) (by decide) (by first | omega | (have := szP_len (by assumption); omega)) (by decide) ?_)); first | done | fail) trivial (fun _ => trivial) rfl)); first | done | fail) (toInt64SS_own p.m hx hb 700 (by omega)) (by omega) (by omega) (fun _ _ => rfl) ?_)); simp (maxSteps := 1000000) (dsimp := false) (implicitDefEqProofs := false) (disch := omega) only [wrap64, go_sem, ints, intss, pz, iv, bv, sv, Nat.reducePow, Nat.reduceDiv, Nat.reduceMod, ↓reduceIte, Nat.reduceEqDiff, Nat.reduceAdd, reduceCtorEq, Nat.reduceBEq, Nat.reduceLT]) | apply_assumption -exfalso -symm)
  all_goals (first | (show endQ _ _ _ _ _ _ _; (repeat (rename (∀ (A : Fr) (H : Hp), AWP _ _ _ _ A H → _) => hK; clear hK)); (repeat (rename (Fr → Hp → Prop) => K; clear K))) | (show Exists _; (repeat (rename (∀ (A : Fr) (H : Hp), AWP _ _ _ _ A H → _) => hK; clear hK)); (repeat (rename (Fr → Hp → Prop) => K; clear K))) | skip)
  refine end_retRC rfl rfl (by simp only [go_sem]; rfl) rfl (fun i hi => ?_) (HasRR.le ?_)
  · have h0 : i = 0 ∨ i = 1 ∨ i = 2 := by omega
    rcases h0 with rfl | rfl | rfl <;> rfl
  · exact HasRR.upd (by decide) (by decide) (HasRR.upd (by decide) (by decide) (HasRR.upd (by decide) (by decide) (HasRR.base (by omega) (by omega))))

/- marks -/
def tot (xss : List (List Int)) : Nat := (xss.map List.length).sum
theorem tot_snoc (xss : List (List Int)) (i : Nat) (h : i < xss.length) : tot (xss.take (i + 1)) = tot (xss.take i) + (xss.getD i []).length := by
  have e : xss.getD i [] = xss[i] := by simp [h]
  rw [List.take_succ_eq_append_getElem h, tot, tot, List.map_append, List.sum_append, e]
  simp
theorem tot_le (xss : List (List Int)) (i : Nat) : tot (xss.take i) ≤ tot xss := by
  induction xss generalizing i with
  | nil => simp [tot]
  | cons a r ih =>
    cases i with
    | zero => simp [tot]
    | succ i => have := ih i; simp only [tot, List.take_succ_cons, List.map_cons, List.sum_cons] at this ⊢; omega
def mkR : Nat → List (List Int) → List (List Int)
  | _, [] => []
  | k, x :: r => marks k x.length :: mkR (k + x.length) r
theorem mkR_length : ∀ (k : Nat) (xss : List (List Int)), (mkR k xss).length = xss.length
  | _, [] => rfl
  | k, x :: r => by simp [mkR, mkR_length]
theorem mkR_snoc : ∀ (k : Nat) (xss : List (List Int)) (x : List Int), mkR k (xss ++ [x]) = mkR k xss ++ [marks (k + tot xss) x.length]
  | k, [], x => by simp [mkR, tot]
  | k, y :: r, x => by
    have := mkR_snoc (k + y.length) r x
    simp only [List.cons_append, mkR, this, tot, List.map_cons, List.sum_cons, Nat.add_assoc]
/-- The rows once i of them are marked. -/
def mkI (k : Nat) (xss : List (List Int)) (i : Nat) : List (List Int) := mkR k (xss.take i) ++ xss.drop i
theorem mkI_length (k : Nat) (xss : List (List Int)) (i : Nat) : (mkI k xss i).length = xss.length := by simp [mkI, mkR_length]; omega
theorem mkI_get (k : Nat) (xss : List (List Int)) (i : Nat) (h : i < xss.length) : (mkI k xss i).getD i [] = xss.getD i [] := by
  have hl : (mkR k (xss.take i)).length = i := by rw [mkR_length]; simp; omega
  rw [mkI, List.getD_eq_getElem?_getD, List.getElem?_append_right (by omega), hl, Nat.sub_self, List.getElem?_drop, Nat.add_zero, List.getD_eq_getElem?_getD]
theorem mkI_step (k : Nat) (xss : List (List Int)) (i : Nat) (h : i < xss.length) : (mkI k xss i).set i (marks (k + tot (xss.take i)) (xss.getD i []).length) = mkI k xss (i + 1) := by
  have hl : (mkR k (xss.take i)).length = i := by rw [mkR_length]; simp; omega
  have e : xss.getD i [] = xss[i] := by simp [h]
  rw [mkI, mkI, List.set_append_right _ _ (by omega), hl, Nat.sub_self, List.drop_eq_getElem_cons h, List.set_cons_zero, List.take_succ_eq_append_getElem h, mkR_snoc, e]
  simp
theorem mkI_all (k : Nat) (xss : List (List Int)) : mkI k xss xss.length = mkR k xss := by simp [mkI]

theorem markInt64SS_ok (xss : List (List Int)) (k : Nat) (hx : xss.length ≤ 2097152) (hy : (mkR k xss).length ≤ 2097152) (hb : ∀ j, (xss.getD j []).length ≤ 1048576) (hk : k + tot xss ≤ 1099511627776) (h : Nat) (hh : h < 2097152) :
    AC Try.prog 67 [.own h 0 1 xss.length, .v (.int .i64 (k))] (RR h xss) (famB h) (postMM h (.v (.int .i64 (((k + tot xss : Nat) : Int)))) (mkR k xss)) := by
  have hx' : xss.length ≤ FB := by rw [FB_eq]; omega
  refine AC.famM (args := fun h => [.own h 0 1 xss.length, .v (.int .i64 (k))]) (h0 := 1000000) ?_ h ?_ ?_ ?_ ?_ ?_ ?_
  rotate_left
  · omega
  · assumption
  · assumption
  · assumption
  · intro ρ; simp only [List.map_cons, List.map_nil, AV.ren, pzo_ren]; try rfl
  · intro ρ; rfl
  refine ac_of_awp (N := ⟨_, famB 1000000, fun h hh => famB_low (Nat.lt_of_lt_of_le hh (by rw [FB_eq]; decide)) (Nat.ne_of_lt (Nat.lt_of_lt_of_le hh (by decide)))⟩) Try.func67 rfl (by kernel_rfl) Try.ntmps67 (by simp) ?_
  simp only [argsFr, List.zipIdx_cons, List.zipIdx_nil, go_sem, ints, intss, pz, iv, sv, bv, Nat.reduceAdd]
  repeat' (first | refine awp_seqK fun K hK => ?_ | (refine awp_regionK 563 rfl ?_; simp only [List.map_cons, List.map_nil]; simp (maxSteps := 1000000) (dsimp := false) (implicitDefEqProofs := false) (disch := omega) only [wrap64, go_sem, ints, intss, pz, iv, bv, sv, Nat.reducePow, Nat.reduceDiv, Nat.reduceMod, ↓reduceIte, Nat.reduceEqDiff, Nat.reduceAdd, reduceCtorEq, Nat.reduceBEq, Nat.reduceLT]) | (refine awp_regionQK 563 (by kernel_rfl) (by kernel_rfl) (by kernel_rfl) ?_; simp only [List.map_cons, List.map_nil]; simp (maxSteps := 1000000) (dsimp := false) (implicitDefEqProofs := false) (disch := omega) only [wrap64, go_sem, ints, intss, pz, iv, bv, sv, Nat.reducePow, Nat.reduceDiv, Nat.reduceMod, ↓reduceIte, Nat.reduceEqDiff, Nat.reduceAdd, reduceCtorEq, Nat.reduceBEq, Nat.reduceLT]) | refine awp_block ?_ | (refine awp_skip ?_; simp only [go_sem, ints, intss, pz, iv, bv, sv, Nat.reducePow, Nat.reduceDiv, Nat.reduceMod, ↓reduceIte, Nat.reduceEqDiff, Nat.reduceAdd, reduceCtorEq, Nat.reduceBEq, Nat.reduceLT]) | (refine awp_exit ?_; simp only [go_sem, ints, intss, pz, iv, bv, sv, Nat.reducePow, Nat.reduceDiv, Nat.reduceMod, ↓reduceIte, Nat.reduceEqDiff, Nat.reduceAdd, reduceCtorEq, Nat.reduceBEq, Nat.reduceLT]) | (refine awp_ret ?_; try simp only [go_sem, ints, intss, pz, iv, bv, sv, Nat.reducePow, Nat.reduceDiv, Nat.reduceMod, ↓reduceIte, Nat.reduceEqDiff, Nat.reduceAdd, reduceCtorEq, Nat.reduceBEq, Nat.reduceLT]) | (refine awp_condP rfl ?_; try simp only [go_sem, ints, intss, pz, iv, bv, sv, Nat.reducePow, Nat.reduceDiv, Nat.reduceMod, ↓reduceIte, Nat.reduceEqDiff, Nat.reduceAdd, reduceCtorEq, Nat.reduceBEq, Nat.reduceLT]) | (refine BrP.mk (fun h => ?_) (fun h => ?_) <;> try simp (dsimp := false) (disch := omega) only [wrap64]) | (refine Br.mk (fun h => ?_) (fun h => ?_) <;> try simp (dsimp := false) (disch := omega) only [wrap64]) | refine Ob.mk (by first | omega | (intro _ _; rfl) | trivial | (intros; trivial) | assumption | (intro i hi; have h0 : i = 0 ∨ i = 1 := (by omega); rcases h0 with rfl | rfl <;> rfl) | (intro i hi; have h0 : i = 0 ∨ i = 1 ∨ i = 2 := (by omega); rcases h0 with rfl | rfl | rfl <;> rfl)) ?_ | apply_assumption -exfalso -symm)
  all_goals (first | (show endQ _ _ _ _ _ _ _; (repeat (rename (∀ (A : Fr) (H : Hp), AWP _ _ _ _ A H → _) => hK; clear hK)); (repeat (rename (Fr → Hp → Prop) => K; clear K))) | (show Exists _; (repeat (rename (∀ (A : Fr) (H : Hp), AWP _ _ _ _ A H → _) => hK; clear hK)); (repeat (rename (Fr → Hp → Prop) => K; clear K))) | skip)
  have hI : ∀ i, (mkI k xss i).length = xss.length := mkI_length k xss
  have h0 : mkI k xss 0 = xss := by simp [mkI, mkR]
  refine awp_loop (ι := Nat) (fun i => [(5, .v (.int .i64 (i))), (0, .own 1000000 0 1 xss.length), (1, .v (.int .i64 ((k + tot (xss.take i) : Nat))))]) (fun i => RR 1000000 (mkI k xss i)) (fun i => i ≤ xss.length) (fun i => xss.length - i) 0 (Nat.zero_le _) (Sub.toL (by simp only [go_sem, ints, intss, pz, iv, bv, sv, Nat.reducePow, Nat.reduceDiv, Nat.reduceMod, ↓reduceIte, Nat.reduceEqDiff, Nat.reduceAdd, reduceCtorEq, Nat.reduceBEq, Nat.reduceLT] <;> first | trivial | (simp only [Option.some.injEq, AV.v.injEq, AV.own.injEq, AV.list.injEq, Value.int.injEq, Value.bool.injEq, true_and, and_true]; first | omega | (simp [tot]; done)) | (simp [tot]; done) | (simp [tot]; omega)) (by rw [h0]; exact Hp.le_refl _)) ?_
  intro i hi
  have hmix : i < xss.length → mixF 1000000 (mkI k xss i) xss.length i = .own (sub 1000000 i) 0 1 (xss.getD i []).length := fun hlt => by rw [mixF_lt hlt, mkI_get k xss i hlt]
  have hsub : i < xss.length → (RR 1000000 (mkI k xss i)) (sub 1000000 i) = some (.cells (xss.getD i []).length (cM iv 0 (xss.getD i []))) := fun hlt => by
    have := PR_sub (d := 1000000) (xss := mkI k xss i) (n := (mkI k xss i).length) (k := (mkI k xss i).length) (by rw [FB_eq]; omega) (by rw [hI]; exact hlt) (by rw [hI]; exact hx')
    rw [mkI_get k xss i hlt] at this
    exact this
  have ht := tot_le xss i
  repeat' (first | refine awp_seqK fun K hK => ?_ | (refine awp_regionK 563 rfl ?_; simp only [List.map_cons, List.map_nil]; simp (maxSteps := 1000000) (dsimp := false) (implicitDefEqProofs := false) (disch := omega) only [wrap64, go_sem, ints, intss, pz, iv, bv, sv, Nat.reducePow, Nat.reduceDiv, Nat.reduceMod, ↓reduceIte, Nat.reduceEqDiff, Nat.reduceAdd, reduceCtorEq, Nat.reduceBEq, Nat.reduceLT, hmix, PR_self, hI]) | (refine awp_regionQK 563 (by kernel_rfl) (by kernel_rfl) (by kernel_rfl) ?_; simp only [List.map_cons, List.map_nil]; simp (maxSteps := 1000000) (dsimp := false) (implicitDefEqProofs := false) (disch := omega) only [wrap64, go_sem, ints, intss, pz, iv, bv, sv, Nat.reducePow, Nat.reduceDiv, Nat.reduceMod, ↓reduceIte, Nat.reduceEqDiff, Nat.reduceAdd, reduceCtorEq, Nat.reduceBEq, Nat.reduceLT, hmix, PR_self, hI]) | refine awp_block ?_ | (refine awp_skip ?_; simp only [go_sem, ints, intss, pz, iv, bv, sv, Nat.reducePow, Nat.reduceDiv, Nat.reduceMod, ↓reduceIte, Nat.reduceEqDiff, Nat.reduceAdd, reduceCtorEq, Nat.reduceBEq, Nat.reduceLT, hmix, PR_self, hI]) | (refine awp_exit ?_; simp only [go_sem, ints, intss, pz, iv, bv, sv, Nat.reducePow, Nat.reduceDiv, Nat.reduceMod, ↓reduceIte, Nat.reduceEqDiff, Nat.reduceAdd, reduceCtorEq, Nat.reduceBEq, Nat.reduceLT, hmix, PR_self, hI]) | (refine awp_ret ?_; try simp only [go_sem, ints, intss, pz, iv, bv, sv, Nat.reducePow, Nat.reduceDiv, Nat.reduceMod, ↓reduceIte, Nat.reduceEqDiff, Nat.reduceAdd, reduceCtorEq, Nat.reduceBEq, Nat.reduceLT, hmix, PR_self, hI]) | (refine awp_condP rfl ?_; try simp only [go_sem, ints, intss, pz, iv, bv, sv, Nat.reducePow, Nat.reduceDiv, Nat.reduceMod, ↓reduceIte, Nat.reduceEqDiff, Nat.reduceAdd, reduceCtorEq, Nat.reduceBEq, Nat.reduceLT, hmix, PR_self, hI]) | (refine BrP.mk (fun h => ?_) (fun h => ?_) <;> try simp (dsimp := false) (disch := omega) only [wrap64]) | (refine Br.mk (fun h => ?_) (fun h => ?_) <;> try simp (dsimp := false) (disch := omega) only [wrap64]) | refine Ob.mk (by first | omega | (intro _ _; rfl) | trivial | (intros; trivial) | assumption | (intro i hi; have h0 : i = 0 ∨ i = 1 := (by omega); rcases h0 with rfl | rfl <;> rfl) | (intro i hi; have h0 : i = 0 ∨ i = 1 ∨ i = 2 := (by omega); rcases h0 with rfl | rfl | rfl <;> rfl)) ?_ | ((first | (refine callM (hsub (by omega)) (markInt64S_ok (xss.getD i []) (k + tot (xss.take i)) (hb i) (by omega) (sub 1000000 i)) (fun _ => rfl) (fun _ => rfl) ?_)); simp (maxSteps := 1000000) (dsimp := false) (implicitDefEqProofs := false) (disch := omega) only [wrap64, go_sem, ints, intss, pz, iv, bv, sv, Nat.reducePow, Nat.reduceDiv, Nat.reduceMod, ↓reduceIte, Nat.reduceEqDiff, Nat.reduceAdd, reduceCtorEq, Nat.reduceBEq, Nat.reduceLT, hmix, PR_self, hI]) | apply_assumption -exfalso -symm)
  all_goals (first | (show endQ _ _ _ _ _ _ _; (repeat (rename (∀ (A : Fr) (H : Hp), AWP _ _ _ _ A H → _) => hK; clear hK)); (repeat (rename (Fr → Hp → Prop) => K; clear K))) | (show Exists _; (repeat (rename (∀ (A : Fr) (H : Hp), AWP _ _ _ _ A H → _) => hK; clear hK)); (repeat (rename (Fr → Hp → Prop) => K; clear K))) | skip)
  · have hlt : i < xss.length := by omega
    have ht3 := tot_snoc xss i hlt
    refine ⟨i + 1, by omega, by omega, Sub.toL (by simp only [go_sem, ints, intss, pz, iv, bv, sv, Nat.reducePow, Nat.reduceDiv, Nat.reduceMod, ↓reduceIte, Nat.reduceEqDiff, Nat.reduceAdd, reduceCtorEq, Nat.reduceBEq, Nat.reduceLT] <;> first | trivial | (simp only [Option.some.injEq, AV.v.injEq, AV.own.injEq, AV.list.injEq, Value.int.injEq, Value.bool.injEq, true_and, and_true]; first | omega | (simp [ht3, Nat.add_assoc]; done)) | (simp [ht3, Nat.add_assoc]; done) | (simp [ht3, Nat.add_assoc]; omega)) ?_⟩
    have := RR_upd (d := 1000000) (i := i) (n := (xss.getD i []).length) (xss := mkI k xss i) (ys := marks (k + tot (xss.take i)) (xss.getD i []).length) (by omega) (by rw [hI]; exact hlt) (by rw [hI]; omega) (by rw [marks_length]) (by rw [marks_length, mkI_get k xss i hlt])
    rw [mkI_step k xss i hlt] at this
    rw [← this]
    exact Hp.le_refl _
  · have e : i = xss.length := by omega
    subst e
    rw [mkI_all]
    refine end_MM rfl rfl (Hp.le_refl _) ?_
    rw [List.take_length]

def szT (xss : List (List Int)) (l : Int) : Prop := (tot xss : Int) ≤ l
theorem szGo_tot : ∀ (xss : List (List Int)) (l : Int), 0 ≤ l → ¬ szGo xss l < 0 → (tot xss : Int) ≤ l
  | [], l, h0, _ => by simpa [tot] using h0
  | a :: r, l, h0, h => by
    simp only [szGo] at h
    split at h
    · exact absurd (by omega) h
    · rename_i h1
      have h2 : szI a l = l - a.length := by
        unfold szI at h1 ⊢
        split
        · rename_i h2; rw [if_pos h2] at h1; omega
        · rfl
      have h3 := szGo_tot r (szI a l) (by omega) h
      have h4 : tot (a :: r) = a.length + tot r := by simp [tot]
      omega
theorem szP_tot {p : Pz} (h : ¬ szP p 1048576 < 0) : tot p.m ≤ 1048576 := by
  unfold szP at h
  split at h
  · omega
  · split at h
    · omega
    · rename_i h1 h2
      unfold szII at h2
      split at h2
      · omega
      · have := szGo_tot p.m _ (by omega) h2
        omega

theorem markPuzzle_ok (p : Pz) (k : Nat) (hx : p.m.length ≤ 2097152) (hy : (mkR k p.m).length ≤ 2097152) (hb : ∀ j, (p.m.getD j []).length ≤ 1048576) (hk : k + tot p.m ≤ 1099511627776) (h : Nat) (hh : h < 2097152) :
    AC Try.prog 47 [pzo p h, .v (.int .i64 (k))] (RR h p.m) (famB h) (postMM h (.v (.int .i64 (((k + tot p.m : Nat) : Int)))) (mkR k p.m)) := by
  refine AC.famM (args := fun h => [pzo p h, .v (.int .i64 (k))]) (h0 := 1000000) ?_ h ?_ ?_ ?_ ?_ ?_ ?_
  rotate_left
  · omega
  · assumption
  · assumption
  · assumption
  · intro ρ; simp only [List.map_cons, List.map_nil, AV.ren, pzo_ren]; try rfl
  · intro ρ; rfl
  refine ac_of_awp (N := ⟨_, famB 1000000, fun h hh => famB_low (Nat.lt_of_lt_of_le hh (by rw [FB_eq]; decide)) (Nat.ne_of_lt (Nat.lt_of_lt_of_le hh (by decide)))⟩) Try.func47 rfl (by kernel_rfl) Try.ntmps47 (by simp) ?_
  simp only [argsFr, List.zipIdx_cons, List.zipIdx_nil, go_sem, ints, intss, pz, iv, sv, bv, Nat.reduceAdd]
  repeat' (first | refine awp_seqK fun K hK => ?_ | (refine awp_regionK 23 rfl ?_; simp only [List.map_cons, List.map_nil]; simp (maxSteps := 1000000) (dsimp := false) (implicitDefEqProofs := false) (disch := omega) only [wrap64, go_sem, ints, intss, pz, iv, bv, sv, Nat.reducePow, Nat.reduceDiv, Nat.reduceMod, ↓reduceIte, Nat.reduceEqDiff, Nat.reduceAdd, reduceCtorEq, Nat.reduceBEq, Nat.reduceLT]) | (refine awp_regionQK 23 (by kernel_rfl) (by kernel_rfl) (by kernel_rfl) ?_; simp only [List.map_cons, List.map_nil]; simp (maxSteps := 1000000) (dsimp := false) (implicitDefEqProofs := false) (disch := omega) only [wrap64, go_sem, ints, intss, pz, iv, bv, sv, Nat.reducePow, Nat.reduceDiv, Nat.reduceMod, ↓reduceIte, Nat.reduceEqDiff, Nat.reduceAdd, reduceCtorEq, Nat.reduceBEq, Nat.reduceLT]) | refine awp_block ?_ | (refine awp_skip ?_; simp only [go_sem, ints, intss, pz, iv, bv, sv, Nat.reducePow, Nat.reduceDiv, Nat.reduceMod, ↓reduceIte, Nat.reduceEqDiff, Nat.reduceAdd, reduceCtorEq, Nat.reduceBEq, Nat.reduceLT]) | (refine awp_exit ?_; simp only [go_sem, ints, intss, pz, iv, bv, sv, Nat.reducePow, Nat.reduceDiv, Nat.reduceMod, ↓reduceIte, Nat.reduceEqDiff, Nat.reduceAdd, reduceCtorEq, Nat.reduceBEq, Nat.reduceLT]) | (refine awp_ret ?_; try simp only [go_sem, ints, intss, pz, iv, bv, sv, Nat.reducePow, Nat.reduceDiv, Nat.reduceMod, ↓reduceIte, Nat.reduceEqDiff, Nat.reduceAdd, reduceCtorEq, Nat.reduceBEq, Nat.reduceLT]) | (refine awp_condP rfl ?_; try simp only [go_sem, ints, intss, pz, iv, bv, sv, Nat.reducePow, Nat.reduceDiv, Nat.reduceMod, ↓reduceIte, Nat.reduceEqDiff, Nat.reduceAdd, reduceCtorEq, Nat.reduceBEq, Nat.reduceLT]) | (refine BrP.mk (fun h => ?_) (fun h => ?_) <;> try simp (dsimp := false) (disch := omega) only [wrap64]) | (refine Br.mk (fun h => ?_) (fun h => ?_) <;> try simp (dsimp := false) (disch := omega) only [wrap64]) | refine Ob.mk (by first | omega | (intro _ _; rfl) | trivial | (intros; trivial) | assumption | (intro i hi; have h0 : i = 0 ∨ i = 1 := (by omega); rcases h0 with rfl | rfl <;> rfl) | (intro i hi; have h0 : i = 0 ∨ i = 1 ∨ i = 2 := (by omega); rcases h0 with rfl | rfl | rfl <;> rfl)) ?_ | ((first | (refine callMM (HasRR.upd (by decide) (by decide) (HasRR.bare (by omega) hx)) (markInt64SS_ok p.m k hx hy hb hk 1000000 (by omega)) (by rw [mkR_length]) (by omega) hx (fun _ => rfl) ?_)); simp (maxSteps := 1000000) (dsimp := false) (implicitDefEqProofs := false) (disch := omega) only [wrap64, go_sem, ints, intss, pz, iv, bv, sv, Nat.reducePow, Nat.reduceDiv, Nat.reduceMod, ↓reduceIte, Nat.reduceEqDiff, Nat.reduceAdd, reduceCtorEq, Nat.reduceBEq, Nat.reduceLT]) | apply_assumption -exfalso -symm)
  all_goals (first | (show endQ _ _ _ _ _ _ _; (repeat (rename (∀ (A : Fr) (H : Hp), AWP _ _ _ _ A H → _) => hK; clear hK)); (repeat (rename (Fr → Hp → Prop) => K; clear K))) | (show Exists _; (repeat (rename (∀ (A : Fr) (H : Hp), AWP _ _ _ _ A H → _) => hK; clear hK)); (repeat (rename (Fr → Hp → Prop) => K; clear K))) | skip)
  refine end_MM rfl rfl (HasRR.le (HasRR.base (by omega) (by omega))) rfl

theorem mkR_get : ∀ (xss : List (List Int)) (k i : Nat), i < xss.length → (mkR k xss).getD i [] = marks (k + tot (xss.take i)) (xss.getD i []).length
  | [], _, _, h => by simp at h
  | x :: r, k, 0, _ => by simp [mkR, tot]
  | x :: r, k, i + 1, h => by
    have := mkR_get r (k + x.length) i (by simpa using h)
    simp only [mkR, List.getD_cons_succ, this, tot, List.take_succ_cons, List.map_cons, List.sum_cons, Nat.add_assoc]

theorem heldInt64SS_ok (xss : List (List Int)) (k : Nat) (hx : xss.length ≤ 1048576) (hb : ∀ j, (xss.getD j []).length ≤ 1048576) (hk : k + tot xss ≤ 1099511627776) :
    AC Try.prog 68 [intss xss, .v (.int .i64 (k))] Hp.emp (fun _ => false) (retV (.v (.int .i64 (if xss = mkR k xss then ((k + tot xss : Nat) : Int) else -1)))) := by
  refine ac_of_awp (N := ⟨_, fun _ => false, fun _ _ => rfl⟩) Try.func68 rfl (by kernel_rfl) Try.ntmps68 (by simp) ?_
  simp only [argsFr, List.zipIdx_cons, List.zipIdx_nil, go_sem, ints, intss, pz, iv, sv, bv, Nat.reduceAdd]
  repeat' (first | refine awp_seqK fun K hK => ?_ | (refine awp_regionK 524851 rfl ?_; simp only [List.map_cons, List.map_nil]; simp (maxSteps := 1000000) (dsimp := false) (implicitDefEqProofs := false) (disch := omega) only [wrap64, go_sem, ints, intss, pz, iv, bv, sv, Nat.reducePow, Nat.reduceDiv, Nat.reduceMod, ↓reduceIte, Nat.reduceEqDiff, Nat.reduceAdd, reduceCtorEq, Nat.reduceBEq, Nat.reduceLT]) | (refine awp_regionQK 524851 (by kernel_rfl) (by kernel_rfl) (by kernel_rfl) ?_; simp only [List.map_cons, List.map_nil]; simp (maxSteps := 1000000) (dsimp := false) (implicitDefEqProofs := false) (disch := omega) only [wrap64, go_sem, ints, intss, pz, iv, bv, sv, Nat.reducePow, Nat.reduceDiv, Nat.reduceMod, ↓reduceIte, Nat.reduceEqDiff, Nat.reduceAdd, reduceCtorEq, Nat.reduceBEq, Nat.reduceLT]) | refine awp_block ?_ | (refine awp_skip ?_; simp only [go_sem, ints, intss, pz, iv, bv, sv, Nat.reducePow, Nat.reduceDiv, Nat.reduceMod, ↓reduceIte, Nat.reduceEqDiff, Nat.reduceAdd, reduceCtorEq, Nat.reduceBEq, Nat.reduceLT]) | (refine awp_exit ?_; simp only [go_sem, ints, intss, pz, iv, bv, sv, Nat.reducePow, Nat.reduceDiv, Nat.reduceMod, ↓reduceIte, Nat.reduceEqDiff, Nat.reduceAdd, reduceCtorEq, Nat.reduceBEq, Nat.reduceLT]) | (refine awp_ret ?_; try simp only [go_sem, ints, intss, pz, iv, bv, sv, Nat.reducePow, Nat.reduceDiv, Nat.reduceMod, ↓reduceIte, Nat.reduceEqDiff, Nat.reduceAdd, reduceCtorEq, Nat.reduceBEq, Nat.reduceLT]) | (refine awp_condP rfl ?_; try simp only [go_sem, ints, intss, pz, iv, bv, sv, Nat.reducePow, Nat.reduceDiv, Nat.reduceMod, ↓reduceIte, Nat.reduceEqDiff, Nat.reduceAdd, reduceCtorEq, Nat.reduceBEq, Nat.reduceLT]) | (refine BrP.mk (fun h => ?_) (fun h => ?_) <;> try simp (dsimp := false) (disch := omega) only [wrap64]) | (refine Br.mk (fun h => ?_) (fun h => ?_) <;> try simp (dsimp := false) (disch := omega) only [wrap64]) | refine Ob.mk (by first | omega | (intro _ _; rfl) | trivial | (intros; trivial) | assumption | (intro i hi; have h0 : i = 0 ∨ i = 1 := (by omega); rcases h0 with rfl | rfl <;> rfl) | (intro i hi; have h0 : i = 0 ∨ i = 1 ∨ i = 2 := (by omega); rcases h0 with rfl | rfl | rfl <;> rfl)) ?_ | apply_assumption -exfalso -symm)
  all_goals (first | (show endQ _ _ _ _ _ _ _; (repeat (rename (∀ (A : Fr) (H : Hp), AWP _ _ _ _ A H → _) => hK; clear hK)); (repeat (rename (Fr → Hp → Prop) => K; clear K))) | (show Exists _; (repeat (rename (∀ (A : Fr) (H : Hp), AWP _ _ _ _ A H → _) => hK; clear hK)); (repeat (rename (Fr → Hp → Prop) => K; clear K))) | skip)
  refine awp_loop (ι := Nat) (fun i => [(5, .v (.int .i64 (i))), (0, .list false 1 (xss).length (cM ints [] (xss))), (1, .v (.int .i64 ((k + tot (xss.take i) : Nat))))]) (fun i => Hp.emp) (fun i => i ≤ xss.length ∧ xss.take i = mkR k (xss.take i)) (fun i => xss.length - i) 0 ?_ (Sub.toL (by simp only [go_sem, ints, intss, pz, iv, bv, sv, Nat.reducePow, Nat.reduceDiv, Nat.reduceMod, ↓reduceIte, Nat.reduceEqDiff, Nat.reduceAdd, reduceCtorEq, Nat.reduceBEq, Nat.reduceLT] <;> first | trivial | (simp only [Option.some.injEq, AV.v.injEq, AV.own.injEq, AV.list.injEq, Value.int.injEq, Value.bool.injEq, true_and, and_true]; first | omega | (simp [tot]; done)) | (simp [tot]; done) | (simp [tot]; omega)) (by (repeat' (first | exact Hp.le_emp _ | exact Hp.le_refl _ | refine Hp.le_upd ?_ ?_)); all_goals (first | rfl | (simp only [go_sem, ints, intss, pz, iv, bv, sv, Nat.reducePow, Nat.reduceDiv, Nat.reduceMod, ↓reduceIte, Nat.reduceEqDiff, Nat.reduceAdd, reduceCtorEq, Nat.reduceBEq, Nat.reduceLT]; first | rfl | (refine cellsE ?_ ?_ <;> (simp [tot])) | (simp [tot]))))) ?_
  · exact ⟨Nat.zero_le _, rfl⟩
  intro i hi
  have ht := tot_le xss i
  repeat' (first | refine awp_seqK fun K hK => ?_ | (refine awp_regionK 524851 rfl ?_; simp only [List.map_cons, List.map_nil]; simp (maxSteps := 1000000) (dsimp := false) (implicitDefEqProofs := false) (disch := omega) only [wrap64, go_sem, ints, intss, pz, iv, bv, sv, Nat.reducePow, Nat.reduceDiv, Nat.reduceMod, ↓reduceIte, Nat.reduceEqDiff, Nat.reduceAdd, reduceCtorEq, Nat.reduceBEq, Nat.reduceLT]) | (refine awp_regionQK 524851 (by kernel_rfl) (by kernel_rfl) (by kernel_rfl) ?_; simp only [List.map_cons, List.map_nil]; simp (maxSteps := 1000000) (dsimp := false) (implicitDefEqProofs := false) (disch := omega) only [wrap64, go_sem, ints, intss, pz, iv, bv, sv, Nat.reducePow, Nat.reduceDiv, Nat.reduceMod, ↓reduceIte, Nat.reduceEqDiff, Nat.reduceAdd, reduceCtorEq, Nat.reduceBEq, Nat.reduceLT]) | refine awp_block ?_ | (refine awp_skip ?_; simp only [go_sem, ints, intss, pz, iv, bv, sv, Nat.reducePow, Nat.reduceDiv, Nat.reduceMod, ↓reduceIte, Nat.reduceEqDiff, Nat.reduceAdd, reduceCtorEq, Nat.reduceBEq, Nat.reduceLT]) | (refine awp_exit ?_; simp only [go_sem, ints, intss, pz, iv, bv, sv, Nat.reducePow, Nat.reduceDiv, Nat.reduceMod, ↓reduceIte, Nat.reduceEqDiff, Nat.reduceAdd, reduceCtorEq, Nat.reduceBEq, Nat.reduceLT]) | (refine awp_ret ?_; try simp only [go_sem, ints, intss, pz, iv, bv, sv, Nat.reducePow, Nat.reduceDiv, Nat.reduceMod, ↓reduceIte, Nat.reduceEqDiff, Nat.reduceAdd, reduceCtorEq, Nat.reduceBEq, Nat.reduceLT]) | (refine awp_condP rfl ?_; try simp only [go_sem, ints, intss, pz, iv, bv, sv, Nat.reducePow, Nat.reduceDiv, Nat.reduceMod, ↓reduceIte, Nat.reduceEqDiff, Nat.reduceAdd, reduceCtorEq, Nat.reduceBEq, Nat.reduceLT]) | (refine BrP.mk (fun h => ?_) (fun h => ?_) <;> try simp (dsimp := false) (disch := omega) only [wrap64]) | (refine Br.mk (fun h => ?_) (fun h => ?_) <;> try simp (dsimp := false) (disch := omega) only [wrap64]) | refine Ob.mk (by first | omega | (intro _ _; rfl) | trivial | (intros; trivial) | assumption | (intro i hi; have h0 : i = 0 ∨ i = 1 := (by omega); rcases h0 with rfl | rfl <;> rfl) | (intro i hi; have h0 : i = 0 ∨ i = 1 ∨ i = 2 := (by omega); rcases h0 with rfl | rfl | rfl <;> rfl)) ?_ | ((first | ((first | refine atF (f := 26) ?_ | refine atQ (f := 26) ?_); (first | (refine cV (hac := heldInt64S_ok (xss.getD i []) (k + tot (xss.take i)) (hb i) (by omega)) (hK := ?_)) | (refine cQV (hac := heldInt64S_ok (xss.getD i []) (k + tot (xss.take i)) (hb i) (by omega)) (hK := ?_))))); simp (maxSteps := 1000000) (dsimp := false) (implicitDefEqProofs := false) (disch := omega) only [wrap64, go_sem, ints, intss, pz, iv, bv, sv, Nat.reducePow, Nat.reduceDiv, Nat.reduceMod, ↓reduceIte, Nat.reduceEqDiff, Nat.reduceAdd, reduceCtorEq, Nat.reduceBEq, Nat.reduceLT]) | apply_assumption -exfalso -symm)
  all_goals (first | (show endQ _ _ _ _ _ _ _; (repeat (rename (∀ (A : Fr) (H : Hp), AWP _ _ _ _ A H → _) => hK; clear hK)); (repeat (rename (Fr → Hp → Prop) => K; clear K))) | (show Exists _; (repeat (rename (∀ (A : Fr) (H : Hp), AWP _ _ _ _ A H → _) => hK; clear hK)); (repeat (rename (Fr → Hp → Prop) => K; clear K))) | skip)
  · refine end_retN rfl rfl ?_
    have hlt : i < xss.length := by omega
    have hc : ¬ xss.getD i [] = marks (k + tot (xss.take i)) (xss.getD i []).length := by
      intro hc; rw [if_pos hc] at *; omega
    rw [if_neg]
    intro e
    refine hc ?_
    have h3 := mkR_get xss k i hlt
    rw [← e] at h3
    exact h3
  · have hlt : i < xss.length := by omega
    have hc : xss.getD i [] = marks (k + tot (xss.take i)) (xss.getD i []).length := by
      by_cases hc : xss.getD i [] = marks (k + tot (xss.take i)) (xss.getD i []).length
      · exact hc
      · rw [if_neg hc] at *; omega
    have ht3 := tot_snoc xss i hlt
    rw [if_pos hc]
    refine ⟨i + 1, ⟨by omega, ?_⟩, by omega, Sub.toL (by simp only [go_sem, ints, intss, pz, iv, bv, sv, Nat.reducePow, Nat.reduceDiv, Nat.reduceMod, ↓reduceIte, Nat.reduceEqDiff, Nat.reduceAdd, reduceCtorEq, Nat.reduceBEq, Nat.reduceLT] <;> first | trivial | (simp only [Option.some.injEq, AV.v.injEq, AV.own.injEq, AV.list.injEq, Value.int.injEq, Value.bool.injEq, true_and, and_true]; first | omega | (simp [ht3, Nat.add_assoc]; done)) | (simp [ht3, Nat.add_assoc]; done) | (simp [ht3, Nat.add_assoc]; omega)) (Hp.le_refl _)⟩
    have e : xss.getD i [] = xss[i] := by simp [hlt]
    rw [List.take_succ_eq_append_getElem hlt, mkR_snoc, ← hi.2, ← e, ← hc]
  · have e : i = xss.length := by omega
    subst e
    refine end_retN rfl rfl ?_
    have h3 := hi.2
    rw [List.take_length] at h3
    rw [if_pos h3, List.take_length]

theorem held_marks (n k : Nat) (hn : n ≤ 1048576) (hk : k ≤ 1099511627776) : AC Try.prog 26 [.list false 1 n (cM iv 0 (marks k n)), .v (.int .i64 (k))] Hp.emp (fun _ => false) (retV (.v (.int .i64 (((k + n : Nat) : Int))))) := by
  have := heldInt64S_ok (marks k n) k (by rw [marks_length]; exact hn) hk
  unfold ints at this
  rw [marks_length] at this
  simpa using this

end Go.Proofs.Ytfgblelbhlpfjaa
